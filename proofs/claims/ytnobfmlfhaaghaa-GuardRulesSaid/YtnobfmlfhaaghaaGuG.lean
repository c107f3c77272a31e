/- guard: room: the reference, the law. -/
import Derived.Test.YtnobfmlfhaaghaaGuF
import Derived.Test.YtnobfmlfhaaghaaRefD
namespace Go.Proofs.Ytnobfmlfhaaghaa
open Go.RowKit
set_option linter.unusedVariables false
set_option linter.unusedSimpArgs false

theorem wf_i64 {n : Int} (h : (Lit.int .i64 n).wf = true) : -9223372036854775808 ≤ n ∧ n ≤ 9223372036854775807 := by
  simp only [Lit.wf, IntKind.min, IntKind.max, IntKind.signed, IntKind.bits, Bool.and_eq_true, decide_eq_true_eq, if_true] at h
  omega
theorem up_bd {m : Int} (m1 : m ≤ 9223372036854775807) : 0 ≤ up m ∧ up m ≤ 9223372036854775807 := by unfold up; omega
theorem rup_any (n : Int) (w : World) : Calls Try.prog 47 #[.int .i64 n] w fun e w' => e = .returned (.int .i64 (up n)) ∧ w' = w := by
  by_cases h : n < 0
  · rw [show up n = 0 by unfold up; omega]
    go_enter Try.func47, Try.ntmps47
    go_wp2_with (fail)
    go_ret
    exact ⟨rfl, rfl⟩
  · rw [show up n = n by unfold up; omega]
    go_enter Try.func47, Try.ntmps47
    go_wp2_with (fail)
    go_ret
    exact ⟨rfl, rfl⟩
/-- The buckets' product, by 100000. -/
def quoP (m l : Int) : Int := up m * up l / 100000
theorem quoP_nonneg (m l : Int) : 0 ≤ quoP m l := by
  unfold quoP
  have : 0 ≤ up m * up l := Int.mul_nonneg (by unfold up; omega) (by unfold up; omega)
  omega
theorem mul10 (m l : Int) : up m * 10 * up l = 10 * (up m * up l) := by
  rw [Int.mul_comm (up m) 10, Int.mul_assoc]
theorem tooQ (t m l : Int) : tooB t m l = (decide (1 < t) && decide (quoP m l < t)) := by
  unfold tooB quoP
  rw [mul10]
  generalize up m * up l = X
  by_cases h : 10 * X < t * 1000000
  · rw [decide_eq_true h, decide_eq_true (show X / 100000 < t by omega)]
  · rw [decide_eq_false h, decide_eq_false (show ¬ X / 100000 < t by omega)]
theorem capQ (m l : Int) : capN m l = max 1 (min 4611686018427387904 (quoP m l)) := by
  unfold capN quoP
  rw [mul10]
  generalize up m * up l = X
  omega
theorem md_rnd (m l : Int) : rnd (up m * up l) 100000 false = quoP m l := by
  unfold rnd quoP
  simp only [Bool.false_eq_true, if_false]
  rw [Int.fdiv_eq_ediv_of_nonneg _ (by omega)]
theorem md_small {m l : Int} (h : quoP m l ≤ 9223372036854775807) : mdN (up m) (up l) 100000 false = quoP m l ∧ mdE (up m) (up l) 100000 false = 0 := by
  have h0 := quoP_nonneg m l
  have hf : fitB (quoP m l) = true := fitB_yes (by omega) h
  unfold mdN mdE
  rw [md_rnd, if_neg (by omega), if_neg (by omega), fitN_yes hf, fitE_yes hf]
  exact ⟨rfl, rfl⟩
theorem md_big {m l : Int} (h : 9223372036854775807 < quoP m l) : mdN (up m) (up l) 100000 false = 0 ∧ mdE (up m) (up l) 100000 false = 8 := by
  have hf : fitB (quoP m l) = false := fitB_no (Or.inr h)
  unfold mdN mdE
  rw [md_rnd, if_neg (by omega), if_neg (by omega), fitN_no hf, fitE_no hf]
  exact ⟨rfl, rfl⟩

set_option maxHeartbeats 1600000 in
theorem rtoo_any (t m l : Int) (t0 : -9223372036854775808 ≤ t) (t1 : t ≤ 9223372036854775807) (m0 : -9223372036854775808 ≤ m) (m1 : m ≤ 9223372036854775807) (l0 : -9223372036854775808 ≤ l) (l1 : l ≤ 9223372036854775807) (w : World) :
    Calls Try.prog 21 #[.int .i64 t, .int .i64 m, .int .i64 l] w fun e w' => e = .returned (.bool (tooB t m l)) ∧ Below w.heap.size w w' := by
  obtain ⟨U, hU⟩ : ∃ U, up m = U := ⟨_, rfl⟩
  obtain ⟨V, hV⟩ : ∃ V, up l = V := ⟨_, rfl⟩
  have bU := up_bd m1
  have bV := up_bd l1
  have RM := Lib.hid (fun w => rup_any m w)
  have RL := Lib.hid (fun w => rup_any l w)
  have HQ := Lib.hid (tooQ t m l)
  have HS := Lib.hid (fun h => md_small (m := m) (l := l) h)
  have HBg := Lib.hid (fun h => md_big (m := m) (l := l) h)
  rw [hU] at RM HS HBg bU
  rw [hV] at RL HS HBg bV
  have HMD := Lib.hid (fun w => rmuldiv_any U V 100000 false w (by omega) bU.2 (by omega) bV.2 (by omega) (by omega))
  obtain ⟨Q, hQ⟩ : ∃ Q, quoP m l = Q := ⟨_, rfl⟩
  rw [hQ] at HQ HS HBg
  have hQ0 : 0 ≤ Q := by rw [← hQ]; exact quoP_nonneg m l
  obtain ⟨N, hN⟩ : ∃ N, mdN U V 100000 false = N := ⟨_, rfl⟩
  obtain ⟨E, hE⟩ : ∃ E, mdE U V 100000 false = E := ⟨_, rfl⟩
  rw [hN, hE] at HMD HS HBg
  rw [HQ.out]
  clear hU hV bU bV hQ hN hE HQ
  by_cases hb : 9223372036854775807 < Q
  · obtain ⟨rfl, rfl⟩ := HBg.out hb
    rw [show decide (Q < t) = false from decide_eq_false (by omega), Bool.and_false]
    clear HS HBg
    by_cases ht : 1 < t
    · go_enter Try.func21, Try.ntmps21
      go_wp2_with (fail)
      refine (RM.out _).mono ?_
      rintro e wq ⟨rfl, hq⟩
      subst hq
      go_wp2_with (fail)
      refine (RL.out _).mono ?_
      rintro e wq ⟨rfl, hq⟩
      subst hq
      go_wp2_with (fail)
      refine (HMD.out _).mono ?_
      rintro e wb ⟨rfl, hw⟩
      have HW := Lib.hid hw
      clear hw
      go_wp2_with (fail)
      go_ret
      exact ⟨rfl, HW.out⟩
    · go_enter Try.func21, Try.ntmps21
      go_wp2_with (fail)
      refine (RM.out _).mono ?_
      rintro e wq ⟨rfl, hq⟩
      subst hq
      go_wp2_with (fail)
      refine (RL.out _).mono ?_
      rintro e wq ⟨rfl, hq⟩
      subst hq
      go_wp2_with (fail)
      refine (HMD.out _).mono ?_
      rintro e wb ⟨rfl, hw⟩
      have HW := Lib.hid hw
      clear hw
      go_wp2_with (fail)
      go_ret
      exact ⟨rfl, HW.out⟩
  · obtain ⟨rfl, rfl⟩ := HS.out (by omega)
    clear HS HBg
    by_cases ht : 1 < t
    · rw [decide_eq_true ht, Bool.true_and]
      go_enter Try.func21, Try.ntmps21
      go_wp2_with (fail)
      refine (RM.out _).mono ?_
      rintro e wq ⟨rfl, hq⟩
      subst hq
      go_wp2_with (fail)
      refine (RL.out _).mono ?_
      rintro e wq ⟨rfl, hq⟩
      subst hq
      go_wp2_with (fail)
      refine (HMD.out _).mono ?_
      rintro e wb ⟨rfl, hw⟩
      have HW := Lib.hid hw
      clear hw
      go_wp2_with (fail)
      go_ret
      exact ⟨rfl, HW.out⟩
    · rw [show decide (1 < t) = false from decide_eq_false ht, Bool.false_and]
      go_enter Try.func21, Try.ntmps21
      go_wp2_with (fail)
      refine (RM.out _).mono ?_
      rintro e wq ⟨rfl, hq⟩
      subst hq
      go_wp2_with (fail)
      refine (RL.out _).mono ?_
      rintro e wq ⟨rfl, hq⟩
      subst hq
      go_wp2_with (fail)
      refine (HMD.out _).mono ?_
      rintro e wb ⟨rfl, hw⟩
      have HW := Lib.hid hw
      clear hw
      go_wp2_with (fail)
      go_ret
      exact ⟨rfl, HW.out⟩

/-- The room. -/
def roomN (m l : Int) : Int := min 4611686018427387904 (quoP m l)
set_option maxHeartbeats 1600000 in
theorem rroom_any (m l : Int) (m0 : -9223372036854775808 ≤ m) (m1 : m ≤ 9223372036854775807) (l0 : -9223372036854775808 ≤ l) (l1 : l ≤ 9223372036854775807) (w : World) :
    Calls Try.prog 48 #[.int .i64 m, .int .i64 l] w fun e w' => e = .returned (.int .i64 (roomN m l)) ∧ Below w.heap.size w w' := by
  obtain ⟨U, hU⟩ : ∃ U, up m = U := ⟨_, rfl⟩
  obtain ⟨V, hV⟩ : ∃ V, up l = V := ⟨_, rfl⟩
  have bU := up_bd m1
  have bV := up_bd l1
  have RM := Lib.hid (fun w => rup_any m w)
  have RL := Lib.hid (fun w => rup_any l w)
  have HS := Lib.hid (fun h => md_small (m := m) (l := l) h)
  have HBg := Lib.hid (fun h => md_big (m := m) (l := l) h)
  rw [hU] at RM HS HBg bU
  rw [hV] at RL HS HBg bV
  have HMD := Lib.hid (fun w => rmuldiv_any U V 100000 false w (by omega) bU.2 (by omega) bV.2 (by omega) (by omega))
  have hR : roomN m l = min 4611686018427387904 (quoP m l) := rfl
  obtain ⟨Q, hQ⟩ : ∃ Q, quoP m l = Q := ⟨_, rfl⟩
  rw [hQ] at HS HBg hR
  have hQ0 : 0 ≤ Q := by rw [← hQ]; exact quoP_nonneg m l
  obtain ⟨N, hN⟩ : ∃ N, mdN U V 100000 false = N := ⟨_, rfl⟩
  obtain ⟨E, hE⟩ : ∃ E, mdE U V 100000 false = E := ⟨_, rfl⟩
  rw [hN, hE] at HMD HS HBg
  rw [hR]
  clear hU hV bU bV hQ hN hE hR
  by_cases hb : 9223372036854775807 < Q
  · obtain ⟨rfl, rfl⟩ := HBg.out hb
    rw [show min 4611686018427387904 Q = 4611686018427387904 by omega]
    clear HS HBg
    go_enter Try.func48, Try.ntmps48
    go_wp2_with (fail)
    refine (RM.out _).mono ?_
    rintro e wq ⟨rfl, hq⟩
    subst hq
    go_wp2_with (fail)
    refine (RL.out _).mono ?_
    rintro e wq ⟨rfl, hq⟩
    subst hq
    go_wp2_with (fail)
    refine (HMD.out _).mono ?_
    rintro e wb ⟨rfl, hw⟩
    have HW := Lib.hid hw
    clear hw
    go_wp2_with (fail)
    go_ret
    exact ⟨rfl, HW.out⟩
  · obtain ⟨rfl, rfl⟩ := HS.out (by omega)
    clear HS HBg
    by_cases hq : 4611686018427387904 < N
    · rw [show min 4611686018427387904 N = 4611686018427387904 by omega]
      go_enter Try.func48, Try.ntmps48
      go_wp2_with (fail)
      refine (RM.out _).mono ?_
      rintro e wq ⟨rfl, hq⟩
      subst hq
      go_wp2_with (fail)
      refine (RL.out _).mono ?_
      rintro e wq ⟨rfl, hq⟩
      subst hq
      go_wp2_with (fail)
      refine (HMD.out _).mono ?_
      rintro e wb ⟨rfl, hw⟩
      have HW := Lib.hid hw
      clear hw
      go_wp2_with (fail)
      go_ret
      exact ⟨rfl, HW.out⟩
    · rw [show min 4611686018427387904 N = N by omega]
      go_enter Try.func48, Try.ntmps48
      go_wp2_with (fail)
      refine (RM.out _).mono ?_
      rintro e wq ⟨rfl, hq⟩
      subst hq
      go_wp2_with (fail)
      refine (RL.out _).mono ?_
      rintro e wq ⟨rfl, hq⟩
      subst hq
      go_wp2_with (fail)
      refine (HMD.out _).mono ?_
      rintro e wb ⟨rfl, hw⟩
      have HW := Lib.hid hw
      clear hw
      go_wp2_with (fail)
      go_ret
      exact ⟨rfl, HW.out⟩
theorem rcapacity_any (m l : Int) (m0 : -9223372036854775808 ≤ m) (m1 : m ≤ 9223372036854775807) (l0 : -9223372036854775808 ≤ l) (l1 : l ≤ 9223372036854775807) (w : World) :
    Calls Try.prog 22 #[.int .i64 m, .int .i64 l] w fun e w' => e = .returned (.int .i64 (capN m l)) ∧ Below w.heap.size w w' := by
  have HR := Lib.hid (rroom_any m l m0 m1 l0 l1 w)
  have hC : capN m l = max 1 (roomN m l) := capQ m l
  rw [hC]
  generalize roomN m l = N at *
  clear hC
  by_cases h : N < 1
  · rw [show max 1 N = 1 by omega]
    go_enter Try.func22, Try.ntmps22
    go_wp2_with (fail)
    refine HR.out.mono ?_
    rintro e wb ⟨rfl, hw⟩
    have HW := Lib.hid hw
    clear hw
    go_wp2_with (fail)
    go_ret
    exact ⟨rfl, HW.out⟩
  · rw [show max 1 N = N by omega]
    go_enter Try.func22, Try.ntmps22
    go_wp2_with (fail)
    refine HR.out.mono ?_
    rintro e wb ⟨rfl, hw⟩
    have HW := Lib.hid hw
    clear hw
    go_wp2_with (fail)
    go_ret
    exact ⟨rfl, HW.out⟩

set_option maxHeartbeats 1600000 in
theorem groom_law (t : Int) (wt : (Lit.int .i64 t).wf = true) (m : Int) (wm : (Lit.int .i64 m).wf = true) (l : Int) (wl : (Lit.int .i64 l).wf = true) (w : World) :
    Calls Try.prog 6 #[.int .i64 t, .int .i64 m, .int .i64 l] w fun e w' => e = .returned (.bool true) ∧ Below w.heap.size w w' := by
  have bt := wf_i64 wt
  have bm := wf_i64 wm
  have bl := wf_i64 wl
  have HC := Lib.hid (fun w => capacity_any m l bm.1 bm.2 bl.1 bl.2 w)
  have HCR := Lib.hid (fun w => rcapacity_any m l bm.1 bm.2 bl.1 bl.2 w)
  have HT := Lib.hid (fun x (h0 : -9223372036854775808 ≤ x) (h1 : x ≤ 9223372036854775807) w => toomany_any x m l h0 h1 bm.1 bm.2 bl.1 bl.2 w)
  have HTR := Lib.hid (fun w => rtoo_any t m l bt.1 bt.2 bm.1 bm.2 bl.1 bl.2 w)
  have HTC := Lib.hid (fun x h1 h2 => too_cap x m l h1 h2)
  have HLV := Lib.hid (fun (w : World) => glive_any w)
  have hC0 : 1 ≤ capN m l := by unfold capN; omega
  have hC1 : capN m l ≤ 4611686018427387904 := by unfold capN; omega
  generalize capN m l = C at *
  have HT0 := Lib.hid (HT.out t bt.1 bt.2)
  have HT1 := Lib.hid (HT.out C (by omega) (by omega))
  have HT2 := Lib.hid (HT.out (C + 1) (by omega) (by omega))
  rw [HTC.out C (by omega) (by omega), show decide (C < C) = false from decide_eq_false (by omega)] at HT1
  have HX : Hid (C < 4611686018427387904 → tooB (C + 1) m l = true) := fun h => by rw [HTC.out (C + 1) (by omega) (by omega)]; exact decide_eq_true (by omega)
  clear HT HTC bt bm bl
  generalize tooB t m l = T at *
  generalize tooB (C + 1) m l = X at *
  go_enter Try.func6, Try.ntmps6
  go_wp2_with (fail)
  refine (HC.out _).mono ?_
  rintro e w1 ⟨rfl, h1⟩
  have B1 := Lib.hid h1
  clear h1
  go_wp2_with (fail)
  refine (HLV.out _).mono ?_
  rintro e w2 ⟨rfl, h2⟩
  have B2 := Lib.hid (B1.out.trans (h2.mono B1.out.size))
  clear h2 B1
  go_wp2_with (fail)
  refine (HT0.out _).mono ?_
  rintro e w3 ⟨rfl, h3⟩
  have B3 := Lib.hid (B2.out.trans (h3.mono B2.out.size))
  clear h3 B2
  go_wp2_with (fail)
  refine (HTR.out _).mono ?_
  rintro e w4 ⟨rfl, h4⟩
  have B4 := Lib.hid (B3.out.trans (h4.mono B3.out.size))
  clear h4 B3
  go_wp2_with (fail)
  refine (HCR.out _).mono ?_
  rintro e w5 ⟨rfl, h5⟩
  have B5 := Lib.hid (B4.out.trans (h5.mono B4.out.size))
  clear h5 B4
  go_wp2_with (fail)
  refine (HT1.out _).mono ?_
  rintro e w6 ⟨rfl, h6⟩
  have B6 := Lib.hid (B5.out.trans (h6.mono B5.out.size))
  clear h6 B5
  by_cases hc : 4611686018427387904 ≤ C
  · have hc2 : C = 4611686018427387904 := by omega
    subst hc2
    go_wp2_with (fail)
    go_ret
    exact ⟨rfl, B6.out⟩
  · have hX := HX.out (by omega)
    subst hX
    go_wp2_with (fail)
    refine (HT2.out _).mono ?_
    rintro e w7 ⟨rfl, h7⟩
    have B7 := Lib.hid (B6.out.trans (h7.mono B6.out.size))
    clear h7 B6
    go_wp2_with (fail)
    go_ret
    exact ⟨rfl, B7.out⟩
end Go.Proofs.Ytnobfmlfhaaghaa
