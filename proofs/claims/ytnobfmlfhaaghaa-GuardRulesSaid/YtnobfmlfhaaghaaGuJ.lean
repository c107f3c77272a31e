/- guard: the reference's fields. -/
import Derived.Test.YtnobfmlfhaaghaaGuI
import Derived.Test.YtnobfmlfhaaghaaGuG
namespace Go.Proofs.Ytnobfmlfhaaghaa
open Go.RowKit
set_option linter.unusedVariables false
set_option linter.unusedSimpArgs false

theorem rinS (n : Int) (w : World) : Calls Try.prog 63 #[.int .i64 n, .int .i64 (-1), .int .i64 1099511627776] w fun e w' => e = .returned (.bool (sysOne n)) ∧ w' = w := rin_any n (-1) 1099511627776 w
def sysEB (a b c d e : Bool) : Int := bif a then bif b then bif c then bif d then bif e then 0 else 33 else 33 else 33 else 33 else 33
theorem sysEB_eq (r : SysS) : sysEB (sysOne r.qps) (sysOne r.thr) (sysOne r.rt) (sysOne r.load) (sysOne r.cpu) = sysE r := by
  unfold sysE sysOk SysS.l
  simp only [List.all_cons, List.all_nil, Bool.and_true]
  cases sysOne r.qps <;> cases sysOne r.thr <;> cases sysOne r.rt <;> cases sysOne r.load <;> cases sysOne r.cpu <;> rfl

set_option maxHeartbeats 6400000 in
set_option maxRecDepth 100000 in
theorem r7sysg_any (r : SysS) (w : World) : Calls Try.prog 53 #[.agg r.c] w fun e w' => e = .returned (.int .i64 (sysE r)) ∧ Below w.heap.size w w' := by
  rw [← sysEB_eq r]
  obtain ⟨q, t, s, l, c⟩ := r
  unfold SysS.c
  dsimp only
  have HB := Lib.hid (show Below w.heap.size w (w.alloc (.cells #[.int .i64 q, .int .i64 t, .int .i64 s, .int .i64 l, .int .i64 c] 23)) from (Below.refl _ _).alloc (Nat.le_refl _) _)
  have HQ := Lib.hid (fun w => rinS q w)
  have HT := Lib.hid (fun w => rinS t w)
  have HS := Lib.hid (fun w => rinS s w)
  have HL := Lib.hid (fun w => rinS l w)
  have HC := Lib.hid (fun w => rinS c w)
  obtain ⟨E, hE⟩ : ∃ E, sysEB (sysOne q) (sysOne t) (sysOne s) (sysOne l) (sysOne c) = E := ⟨_, rfl⟩
  rw [hE]
  have HE := Lib.hid hE
  clear hE
  generalize sysOne q = Q at *
  generalize sysOne t = T at *
  generalize sysOne s = S at *
  generalize sysOne l = LL at *
  generalize sysOne c = C at *
  go_enter Try.func53, Try.ntmps53
  go_wp2_with (fail)
  refine (HQ.out _).mono ?_
  rintro e wq ⟨rfl, hq⟩
  subst hq
  cases Q
  · go_wp2_with (fail)
    go_ret
    exact ⟨by rw [← HE.out]; rfl, HB.out⟩
  · go_wp2_with (fail)
    refine (HT.out _).mono ?_
    rintro e wq ⟨rfl, hq⟩
    subst hq
    cases T
    · go_wp2_with (fail)
      go_ret
      exact ⟨by rw [← HE.out]; rfl, HB.out⟩
    · go_wp2_with (fail)
      refine (HS.out _).mono ?_
      rintro e wq ⟨rfl, hq⟩
      subst hq
      cases S
      · go_wp2_with (fail)
        go_ret
        exact ⟨by rw [← HE.out]; rfl, HB.out⟩
      · go_wp2_with (fail)
        refine (HL.out _).mono ?_
        rintro e wq ⟨rfl, hq⟩
        subst hq
        cases LL
        · go_wp2_with (fail)
          go_ret
          exact ⟨by rw [← HE.out]; rfl, HB.out⟩
        · go_wp2_with (fail)
          refine (HC.out _).mono ?_
          rintro e wq ⟨rfl, hq⟩
          subst hq
          cases C
          · go_wp2_with (fail)
            go_ret
            exact ⟨by rw [← HE.out]; rfl, HB.out⟩
          · go_wp2_with (fail)
            go_ret
            exact ⟨by rw [← HE.out]; rfl, HB.out⟩

theorem now_step {xs : List Int} {k : Nat} (hk : k < xs.length) (h : (xs.take k).all nowOne = true) : (xs.take (k + 1)).all nowOne = nowOne (xs.getD k 0) := all_step hk h
set_option maxHeartbeats 3200000 in
set_option maxRecDepth 100000 in
theorem rmay_any (s : NowS) (w : World) : Calls Try.prog 54 #[.agg s.c] w fun e w' => e = .returned (.bool (nowOk s)) ∧ Below w.heap.size w w' := by
  have hb : Below w.heap.size w ((w.alloc (.cells s.c 25)).alloc (.cells s.c 3)) := ((Below.refl _ _).alloc (Nat.le_refl _) _).alloc (by simp) _
  have HB := Lib.hid hb
  have hg : ((w.alloc (.cells s.c 25)).alloc (.cells s.c 3)).heap[w.heap.size + 1]? = some (.cells s.c 3) := by simp only [get_allocG, World.size_alloc, if_true]
  have hc : ∀ j, j < 7 → ((w.alloc (.cells s.c 25)).alloc (.cells s.c 3)).cell? ⟨w.heap.size + 1, j, none⟩ = some (.int .i64 (s.l.getD j 0)) := by
    intro j hj
    simp only [World.cell?, hg]
    match j, hj with
    | 0, _ => rfl
    | 1, _ => rfl
    | 2, _ => rfl
    | 3, _ => rfl
    | 4, _ => rfl
    | 5, _ => rfl
    | 6, _ => rfl
  have HC := Lib.hid hc
  have HOK := Lib.hid (show nowOk s = s.l.all nowOne from rfl)
  have hL : s.l.length = 7 := rfl
  obtain ⟨RC, hRC⟩ : ∃ RC, s.l = RC := ⟨_, rfl⟩
  rw [hRC] at HC HOK hL
  have HL := Lib.hid hL
  clear hb hg hc hRC hL
  obtain ⟨q, t, rt, lo, cp, mo, le⟩ := s
  unfold NowS.c at *
  dsimp only at *
  go_enter Try.func54, Try.ntmps54
  go_wp2_with (fail)
  go_loop [4] (fun i => ∃ k : Nat, k ≤ 7 ∧ i = .int .i64 k ∧ Hid ((RC.take k).all nowOne = true)) (fun i => 7 - (intOf i).toNat)
  case atStart => exact ⟨0, Nat.zero_le _, rfl, rfl⟩
  case round =>
    obtain ⟨k, hk, rfl, HA⟩ := hrel
    have k0 : (0 : Int) ≤ k := by omega
    by_cases hlt : k < 7
    · have d1 := HC.out k hlt
      have hs := now_step (xs := RC) (k := k) (by rw [HL.out]; exact hlt) HA.out
      have k1 : (k : Int) < 7 := by omega
      generalize RC.getD k 0 = X at d1 hs
      by_cases hx0 : X < 0
      · have hF : RC.all nowOne = false := all_false (hs.trans (by unfold nowOne; rw [decide_eq_true hx0]; rfl))
        have HF := Lib.hid hF
        clear hs hF
        go_wp2_with (fail)
        go_ret
        exact ⟨by rw [HOK.out, HF.out]; rfl, HB.out⟩
      · by_cases hx1 : 4611686018427387904 < X
        · have hF : RC.all nowOne = false := all_false (hs.trans (by unfold nowOne; rw [decide_eq_true hx1]; simp))
          have HF := Lib.hid hF
          clear hs hF
          go_wp2_with (fail)
          go_ret
          exact ⟨by rw [HOK.out, HF.out]; rfl, HB.out⟩
        · have HT := Lib.hid (hs.trans (by unfold nowOne; rw [decide_eq_false hx0, decide_eq_false hx1] <;> try rfl))
          clear hs
          go_wp2_with (fail)
          exact ⟨⟨k + 1, by omega, by go_num, HT⟩, by first | (simp [intOf]; done) | (simp [intOf]; omega)⟩
    · have HT : Hid (RC.all nowOne = true) := Lib.hid (by
        have h1 := HA.out
        rwa [List.take_of_length_le (by rw [HL.out]; omega)] at h1)
      go_wp2_with (fail)
      go_ret
      exact ⟨by rw [HOK.out, HT.out]; rfl, HB.out⟩

theorem above_neg {a b l : Int} (h0 : -1 ≤ l) (h : ¬ 0 ≤ l) : aboveB a b l = false := by
  have : l = -1 := by omega
  subst this; rfl
theorem above_yes {a b l : Int} (h0 : 0 ≤ l) (h : l - b < a) : aboveB a b l = true := by
  unfold aboveB
  rw [decide_eq_true h, show (l != -1) = true from bne_iff_ne.2 (by omega)]; rfl
theorem above_no {a b l : Int} (h0 : -1 ≤ l) (h : l < 0 ∨ a ≤ l - b) : aboveB a b l = false := by
  rcases h with h | h
  · have : l = -1 := by omega
    subst this; rfl
  · unfold aboveB
    rw [decide_eq_false (show ¬ l - b < a by omega), Bool.and_false]
theorem above_ok {a b l : Int} (h : 0 ≤ l ∧ l - b < a) : aboveB a b l = true := by
  unfold aboveB
  rw [decide_eq_true h.2, show (l != -1) = true from bne_iff_ne.2 (by omega)]; rfl
theorem and_no {a b l : Int} {T : Bool} (h0 : -1 ≤ l) (h : l < 0 ∨ a ≤ l - b) : (aboveB a b l && T) = false := by rw [above_no h0 h]; rfl
section
variable {sq n rq st rt sr rr sl rl sc rc : Int} {B C D T E : Bool}
theorem ex0 (h : 0 ≤ rq ∧ rq - n < sq) : pick5 (aboveB sq n rq) B C D T E = tQps := by rw [above_ok h]; rfl
theorem ex1 (q0 : -1 ≤ rq) (hq : rq < 0 ∨ sq ≤ rq - n) (h : 0 ≤ rt ∧ rt - 1 < st) : pick5 (aboveB sq n rq) (aboveB st 1 rt) C D T E = tThreads := by rw [above_no q0 hq, above_ok h]; rfl
theorem ex2 (q0 : -1 ≤ rq) (t0 : -1 ≤ rt) (hq : rq < 0 ∨ sq ≤ rq - n) (ht : rt < 0 ∨ st ≤ rt - 1) (h : 0 ≤ rr ∧ rr - 0 < sr) : pick5 (aboveB sq n rq) (aboveB st 1 rt) (aboveB sr 0 rr) D T E = tRt := by rw [above_no q0 hq, above_no t0 ht, above_ok h]; rfl
theorem ex3 (q0 : -1 ≤ rq) (t0 : -1 ≤ rt) (r0 : -1 ≤ rr) (hq : rq < 0 ∨ sq ≤ rq - n) (ht : rt < 0 ∨ st ≤ rt - 1) (hr : rr < 0 ∨ sr ≤ rr - 0) (h : 0 ≤ rl ∧ rl - 0 < sl) : pick5 (aboveB sq n rq) (aboveB st 1 rt) (aboveB sr 0 rr) (aboveB sl 0 rl) true E = tLoad := by rw [above_no q0 hq, above_no t0 ht, above_no r0 hr, above_ok h]; rfl
theorem ex4 (q0 : -1 ≤ rq) (t0 : -1 ≤ rt) (r0 : -1 ≤ rr) (hq : rq < 0 ∨ sq ≤ rq - n) (ht : rt < 0 ∨ st ≤ rt - 1) (hr : rr < 0 ∨ sr ≤ rr - 0) (hl : (aboveB sl 0 rl && T) = false) (h : 0 ≤ rc ∧ rc - 0 < sc) : pick5 (aboveB sq n rq) (aboveB st 1 rt) (aboveB sr 0 rr) (aboveB sl 0 rl) T (aboveB sc 0 rc) = tCpu := by
  unfold pick5; rw [hl, above_no q0 hq, above_no t0 ht, above_no r0 hr, above_ok h]; rfl
theorem ex5 (q0 : -1 ≤ rq) (t0 : -1 ≤ rt) (r0 : -1 ≤ rr) (c0 : -1 ≤ rc) (hq : rq < 0 ∨ sq ≤ rq - n) (ht : rt < 0 ∨ st ≤ rt - 1) (hr : rr < 0 ∨ sr ≤ rr - 0) (hl : (aboveB sl 0 rl && T) = false) (h : rc < 0 ∨ sc ≤ rc - 0) : pick5 (aboveB sq n rq) (aboveB st 1 rt) (aboveB sr 0 rr) (aboveB sl 0 rl) T (aboveB sc 0 rc) = tNone := by
  unfold pick5; rw [hl, above_no q0 hq, above_no t0 ht, above_no r0 hr, above_no c0 h]; rfl
end
theorem above_not {a b l : Int} (h : ¬ l - b < a) : aboveB a b l = false := by
  unfold aboveB
  rw [decide_eq_false h]; simp

set_option maxHeartbeats 25600000 in
set_option maxRecDepth 100000 in
theorem rfield_any (r : SysS) (n : Int) (s : NowS) (w : World) : Calls Try.prog 28 #[.agg r.c, .int .i64 n, .agg s.c] w fun e w' => e = .returned (.string (fieldT r n s)) ∧ Below w.heap.size w w' := by
  have hBA : Below w.heap.size w ((w.alloc (.cells r.c 23)).alloc (.cells s.c 25)) := ((Below.refl _ _).alloc (Nat.le_refl _) _).alloc (by simp) _
  have h0 : ((w.alloc (.cells r.c 23)).alloc (.cells s.c 25)).heap[w.heap.size]? = some (.cells r.c 23) := by rw [get_allocG, if_neg (by simp), get_allocG, if_pos rfl]
  have h1 : ((w.alloc (.cells r.c 23)).alloc (.cells s.c 25)).heap[w.heap.size + 1]? = some (.cells s.c 25) := by rw [get_allocG, if_pos (by simp)]
  have hz : ((w.alloc (.cells r.c 23)).alloc (.cells s.c 25)).heap.size = w.heap.size + 2 := by simp
  have HSY := Lib.hid (fun w => r7sysg_any r w)
  have HMY := Lib.hid (fun w => rmay_any s w)
  have HTB := Lib.hid (fun hs => (nowOk_all (n := s) hs))
  have HSB := Lib.hid (fun hs => (sysOk_all (r := r) hs))
  have HTM := Lib.hid (fun (hs : nowOk s = true) w => rtoo_any s.thr s.most s.least (by have := (nowOk_all hs).2.1.1; omega) (by have := (nowOk_all hs).2.1.2; omega) (by have := (nowOk_all hs).2.2.2.2.2.1.1; omega) (by have := (nowOk_all hs).2.2.2.2.2.1.2; omega) (by have := (nowOk_all hs).2.2.2.2.2.2.1; omega) (by have := (nowOk_all hs).2.2.2.2.2.2.2; omega) w)
  have HFT := Lib.hid (show fieldT r n s = if mayB r n s then fieldN r n s else tForm from rfl)
  have HMB := Lib.hid (show mayB r n s = (sysOk r && (nOk n && nowOk s)) from rfl)
  have HSE := Lib.hid (show sysE r = if sysOk r then 0 else 33 from rfl)
  have HFN := Lib.hid (show fieldN r n s = pick5 (aboveB s.qps n r.qps) (aboveB s.thr 1 r.thr) (aboveB s.rt 0 r.rt) (aboveB s.load 0 r.load) (tooB s.thr s.most s.least) (aboveB s.cpu 0 r.cpu) from rfl)
  have HNK := Lib.hid (show nOk n = (decide (1 ≤ n) && decide (n ≤ 1099511627776)) from rfl)
  generalize fieldT r n s = FT at *
  generalize mayB r n s = MB at *
  generalize fieldN r n s = FN at *
  generalize sysE r = SE at *
  obtain ⟨rq, rt, rr, rl, rc⟩ := r
  obtain ⟨sq, st, sr, sl, sc, sm, se⟩ := s
  unfold SysS.c NowS.c at *
  dsimp only at *
  go_enter Try.func28, Try.ntmps28
  go_wp2_with (fail)
  generalize ((w.alloc _).alloc _) = W at *
  have HBX : Hid (∀ wx, Below W.heap.size W wx → (wx.cell? ⟨w.heap.size, 0, none⟩ = some (.int .i64 rq) ∧ wx.cell? ⟨w.heap.size, 1, none⟩ = some (.int .i64 rt) ∧ wx.cell? ⟨w.heap.size, 2, none⟩ = some (.int .i64 rr) ∧ wx.cell? ⟨w.heap.size, 3, none⟩ = some (.int .i64 rl) ∧ wx.cell? ⟨w.heap.size, 4, none⟩ = some (.int .i64 rc)) ∧ (wx.cell? ⟨w.heap.size + 1, 0, none⟩ = some (.int .i64 sq) ∧ wx.cell? ⟨w.heap.size + 1, 1, none⟩ = some (.int .i64 st) ∧ wx.cell? ⟨w.heap.size + 1, 2, none⟩ = some (.int .i64 sr) ∧ wx.cell? ⟨w.heap.size + 1, 3, none⟩ = some (.int .i64 sl) ∧ wx.cell? ⟨w.heap.size + 1, 4, none⟩ = some (.int .i64 sc) ∧ wx.cell? ⟨w.heap.size + 1, 5, none⟩ = some (.int .i64 sm) ∧ wx.cell? ⟨w.heap.size + 1, 6, none⟩ = some (.int .i64 se))) := fun wx hb => by
    have g0 := (hb.block w.heap.size (by omega)).trans h0
    have g1 := (hb.block (w.heap.size + 1) (by omega)).trans h1
    simp only [World.cell?, g0, g1]
    exact ⟨⟨rfl, rfl, rfl, rfl, rfl⟩, rfl, rfl, rfl, rfl, rfl, rfl, rfl⟩
  have HB := Lib.hid hBA
  clear h0 h1 hz hBA
  refine (HSY.out _).mono ?_
  rintro e w1 ⟨rfl, hb1⟩
  obtain ⟨⟨a0, a1, a2, a3, a4⟩, b0, b1, b2, b3, b4, b5, b6⟩ := HBX.out _ hb1
  have HB1 := Lib.hid hb1
  clear hb1
  cases hso : sysOk ⟨rq, rt, rr, rl, rc⟩
  · rw [hso] at HSE HMB
    rw [HSE.out, if_neg (by simp)]
    have HF := Lib.hid (HFT.out.trans (by rw [HMB.out] <;> try rfl))
    clear hso
    go_wp2_with (fail)
    go_ret
    exact ⟨by rw [HF.out]; rfl, HB.out.trans (HB1.out.mono HB.out.size)⟩
  · rw [hso] at HSE HMB
    rw [HSE.out, if_pos rfl]
    obtain ⟨⟨q0, q1⟩, ⟨t0, t1⟩, ⟨r0, r1⟩, ⟨l0, l1⟩, ⟨c0, c1⟩⟩ := HSB.out hso
    try dsimp only at q0 q1 t0 t1 r0 r1 l0 l1 c0 c1
    clear hso
    by_cases hn0 : n < 1
    · have HF := Lib.hid (HFT.out.trans (by rw [HMB.out, HNK.out, decide_eq_false (show ¬ 1 ≤ n by omega)] <;> try rfl))
      go_wp2_with (fail)
      go_ret
      exact ⟨by rw [HF.out]; rfl, HB.out.trans (HB1.out.mono HB.out.size)⟩
    · by_cases hn1 : 1099511627776 < n
      · have HF := Lib.hid (HFT.out.trans (by rw [HMB.out, HNK.out, decide_eq_false (show ¬ n ≤ 1099511627776 by omega), Bool.and_false, Bool.false_and, Bool.and_false] <;> try rfl))
        go_wp2_with (fail)
        go_ret
        exact ⟨by rw [HF.out]; rfl, HB.out.trans (HB1.out.mono HB.out.size)⟩
      · have HMB2 := Lib.hid (HMB.out.trans (by rw [HNK.out, decide_eq_true (show 1 ≤ n by omega), decide_eq_true (show n ≤ 1099511627776 by omega), Bool.true_and, Bool.and_self, Bool.true_and]))
        go_wp2_with (fail)
        refine (HMY.out _).mono ?_
        rintro e w2 ⟨rfl, hb2⟩
        have hbw := HB1.out.trans (hb2.mono HB1.out.size)
        have HB2 := Lib.hid (HB.out.trans (hbw.mono HB.out.size))
        clear a0 a1 a2 a3 a4 b0 b1 b2 b3 b4 b5 b6
        obtain ⟨⟨a0, a1, a2, a3, a4⟩, b0, b1, b2, b3, b4, b5, b6⟩ := HBX.out _ hbw
        have HBW := Lib.hid hbw
        clear hb2 hbw
        cases hno : nowOk ⟨sq, st, sr, sl, sc, sm, se⟩
        · rw [hno] at HMB2
          have HF := Lib.hid (HFT.out.trans (by rw [HMB2.out] <;> try rfl))
          clear hno
          go_wp2_with (fail)
          go_ret
          exact ⟨by rw [HF.out]; rfl, HB2.out⟩
        · rw [hno] at HMB2
          have HF := Lib.hid (HFT.out.trans (by rw [HMB2.out, if_pos rfl, HFN.out]))
          obtain ⟨⟨p0, p1⟩, ⟨u0, u1⟩, ⟨v0, v1⟩, ⟨x0, x1⟩, ⟨y0, y1⟩, _, _⟩ := HTB.out hno
          try dsimp only at p0 p1 u0 u1 v0 v1 x0 x1 y0 y1
          have HTM2 := Lib.hid (HTM.out hno)
          clear hno HFT HMB HMB2 HSE HSB HTB HTM HFN HSY HMY HNK
          generalize tooB st sm se = T at *
          go_wp2_with (fail)
          any_goals (
            refine (HTM2.out _).mono ?_
            rintro e w3 ⟨rfl, hb3⟩
            have hbw := HBW.out.trans (hb3.mono HBW.out.size)
            have HB3 := Lib.hid (HB.out.trans (hbw.mono HB.out.size))
            clear a0 a1 a2 a3 a4 b0 b1 b2 b3 b4 b5 b6
            obtain ⟨⟨a0, a1, a2, a3, a4⟩, b0, b1, b2, b3, b4, b5, b6⟩ := HBX.out _ hbw
            clear hb3 hbw
            cases T
            all_goals go_wp2_with (fail))
          all_goals (
            go_ret
            refine ⟨?_, by first | exact HB3.out | exact HB2.out⟩
            first
              | (rw [HF.out, ex0 (by omega)]; rfl)
              | (rw [HF.out, ex1 q0 (by omega) (by omega)]; rfl)
              | (rw [HF.out, ex2 q0 t0 (by omega) (by omega) (by omega)]; rfl)
              | (rw [HF.out, ex3 q0 t0 r0 (by omega) (by omega) (by omega) (by omega)]; rfl)
              | (rw [HF.out, ex4 q0 t0 r0 (by omega) (by omega) (by omega) (by first | exact Bool.and_false _ | exact and_no l0 (by omega)) (by omega)]; rfl)
              | (rw [HF.out, ex5 q0 t0 r0 c0 (by omega) (by omega) (by omega) (by first | exact Bool.and_false _ | exact and_no l0 (by omega)) (by omega)]; rfl))

set_option maxHeartbeats 1600000 in
set_option maxRecDepth 100000 in
theorem rsystem_any (r : SysS) (n : Int) (s : NowS) (w : World) : Calls Try.prog 27 #[.agg r.c, .int .i64 n, .agg s.c] w fun e w' => e = .returned (.bool (passB r n s)) ∧ Below w.heap.size w w' := by
  have hBA : Below w.heap.size w ((w.alloc (.cells r.c 23)).alloc (.cells s.c 25)) := ((Below.refl _ _).alloc (Nat.le_refl _) _).alloc (by simp) _
  have HF := Lib.hid (fun w => rfield_any r n s w)
  have HP := Lib.hid (show passB r n s = ((fieldT r n s).toList == []) from rfl)
  generalize passB r n s = PB at *
  generalize fieldT r n s = FT at *
  have HB := Lib.hid hBA
  obtain ⟨rq, rt, rr, rl, rc⟩ := r
  obtain ⟨sq, st, sr, sl, sc, sm, se⟩ := s
  unfold SysS.c NowS.c at *
  dsimp only at *
  clear hBA
  go_enter Try.func27, Try.ntmps27
  go_wp2_with (fail)
  refine (HF.out _).mono ?_
  rintro e w1 ⟨rfl, hb1⟩
  have HB1 := Lib.hid (HB.out.trans (hb1.mono HB.out.size))
  clear hb1
  go_wp2_with (fail)
  go_ret
  exact ⟨by rw [HP.out, show (FT.toList == []) = FT.toList.isEmpty by cases FT.toList <;> rfl]; rfl, HB1.out⟩
end Go.Proofs.Ytnobfmlfhaaghaa