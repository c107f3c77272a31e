/- The layer warmup: fill and rate. -/
import Derived.Test.YtoaggnponndlbaaWarmA
namespace Go.Proofs.Ytoaggnponndlbaa
open Go.RowKit
set_option linter.unusedVariables false
set_option linter.unusedSimpArgs false

theorem ints_heap {w w' : World} {a : Option Addr} {xs : List Int} (h : w'.heap = w.heap) (k : IntsAt w a xs) : IntsAt w' a xs := by
  rcases k with k | ⟨bl, off, rfl, hlt, hc⟩
  · exact Or.inl k
  · exact Or.inr ⟨bl, off, rfl, by rw [h]; exact hlt, fun j hj => (World.cell?_of_block (a := ⟨bl, off + j, none⟩) (by rw [h])).trans (hc j hj)⟩

set_option maxHeartbeats 1600000 in
theorem wfill_any (b : Nat) (s : WarmS) (x past : Int) (w : World) (h : WarmAt w b s) (hok : WarmOk s) (x0 : 0 ≤ x) (x1 : x ≤ 1152921504606846976) (hx : s.last ≤ x) (p0 : 0 ≤ past) (p1 : past ≤ 4611686018427387904) :
    Calls Try.prog 22 #[.pointer (some ⟨b, 0, none⟩), .int .i64 x, .int .i64 past] w fun e w' => e = .returned (.tuple #[.int .i64 (fillN s x past), .int .i64 (secOf x)]) ∧ Below w.heap.size w w' := by
  have hall := all_bd hok
  have hsec := sec_after hok hx
  have HC := Lib.hid (fun n hn => come_layer hok (n := n) hn)
  have HCb := Lib.hid (fun n hn => comeN_bd hok (n := n) hn)
  have q0 := hok.c1
  have q1 := hok.c2
  have q2 := hok.t1
  have q3 := hok.t2
  have q4 := hok.f1
  have q5 := hok.l2
  have q6 := hok.f2
  have HF := Lib.hid (show fillN s x past = if x - x % 1000000 = s.filled then s.tokens else max (tokN s x past - past) 0 from rfl)
  have HT := Lib.hid (show tokN s x past = if s.filled < 0 then allOf s else if s.tokens < warnOf s ∨ past < s.count / 3 then comeN s ((x - x % 1000000 - s.filled) / 1000000) else s.tokens from rfl)
  rw [show secOf x = x - x % 1000000 from rfl] at hsec ⊢
  have H := Lib.hid h
  obtain ⟨c0, c1, c2, c3, c4, c5, c6, fr, lt⟩ := h
  clear fr c1 c6 lt
  by_cases hA : x - x % 1000000 = s.filled
  · have e1 : fillN s x past = s.tokens := by rw [HF.out, if_pos hA]
    rw [e1, hA]
    clear e1
    go_enter Try.func22, Try.ntmps22
    go_wp2_with (fail)
    go_ret2
    exact ⟨rfl, Below.refl _ _⟩
  · have e1 : fillN s x past = max (tokN s x past - past) 0 := by rw [HF.out, if_neg hA]
    by_cases hf : s.filled < 0
    · have e2 : tokN s x past = allOf s := by rw [HT.out, if_pos hf]
      rw [e1, e2]
      clear e1 e2
      go_enter Try.func22, Try.ntmps22
      go_wp2_with (fail)
      go_ret2
      exact ⟨rfl, Below.refl _ _⟩
    · obtain ⟨CC, ST, TT, FF, LL⟩ := s
      dsimp only at *
      obtain ⟨SEC, hSEC⟩ : ∃ v, x - x % 1000000 = v := ⟨_, rfl⟩
      obtain ⟨NN, hNN⟩ : ∃ v, (SEC - FF) / 1000000 = v := ⟨_, rfl⟩
      rw [hSEC] at hA hsec HT ⊢
      rw [hNN] at HT
      obtain ⟨C3, hC3⟩ : ∃ v, CC / 3 = v := ⟨_, rfl⟩
      have W3 : IntKind.i64.wrap (CC.tdiv 3) = C3 := by rw [Int.tdiv_eq_ediv_of_nonneg (by omega), IntKind.wrap_i64]; omega
      have HW := Lib.hid (show IntKind.i64.wrap ((IntKind.i64.wrap (SEC - FF)).tdiv 1000000) = NN by
        have : IntKind.i64.wrap (SEC - FF) = SEC - FF := by rw [IntKind.wrap_i64]; omega
        rw [this, Int.tdiv_eq_ediv_of_nonneg (by omega), IntKind.wrap_i64]; omega)
      rw [hC3] at HT
      have n0 : 0 ≤ NN := by omega
      have n1 : NN ≤ 1152921504606 := by omega
      have s0 : 0 ≤ SEC := by omega
      have s1 : SEC ≤ 1152921504606846976 := by omega
      have hC1 := HC.out NN n0
      have hC2 := HCb.out NN n0
      have Ht := Lib.hid (fun w => times_any CC NN w (by omega) (by omega) (by omega) (by omega))
      have kb := keep_bd (CC * NN)
      generalize keep (CC * NN) = KM at *
      have Hp := Lib.hid (fun (w : World) (wx : World) (h : wx.heap = (w.alloc (.cells #[.int .i64 TT, .int .i64 KM] 3)).heap) => plusl_any (some ⟨w.heap.size, 0, none⟩) 2 2 [TT, KM] wx (by intro y hy; simp at hy; rcases hy with rfl | rfl <;> omega) rfl (by decide) (ints_heap h (two_at w TT KM)))
      have kb2 := keepSum_bd [TT, KM]
      generalize keepSum [TT, KM] = KS at *
      rw [← hC1] at HT hC2
      have HK := Lib.hid (fun (wx : World) (hk : Below w.heap.size w wx) => And.intro (H.out.below hk).c3 (H.out.below hk).lt)
      generalize allOf ⟨CC, ST, TT, FF, LL⟩ = AL at *
      generalize warnOf ⟨CC, ST, TT, FF, LL⟩ = WA at *
      clear HC HCb HF hC1
      by_cases hw : TT < WA
      · have e2 : tokN ⟨CC, ST, TT, FF, LL⟩ x past = min KS AL := by rw [HT.out, if_neg hf, if_pos (Or.inl hw)]
        rw [e1, e2]
        clear e1 e2 HT
        go_enter Try.func22, Try.ntmps22
        go_wp2_with (fail)
        go_quiet (fail)
        go_wp2_with (fail)
        go_cut [8] from 60 to 72 (fun y wx => y = .int .i64 KM ∧ Below w.heap.size w wx)
        case first =>
          go_region_with ((go_at_call 24; rw [HW.out]; refine (Ht.out _).mono ?_; rintro e w3 ⟨rfl, hb3⟩))
          all_goals
            go_simp
            go_step
            go_meet
            exact ⟨rfl, (below_drewN (Below.refl w.heap.size w) _).trans (hb3.mono (Nat.le_refl _))⟩
        case rest =>
          obtain ⟨rfl, hq1⟩ := hcut
          clear c0 c2 c3 c4 c5
          obtain ⟨c3, lt⟩ := HK.out _ hq1
          have HKB := Lib.hid kb2
          have HC2 := Lib.hid hC2
          have HALL := Lib.hid hall
          clear kb2 hC2 hall q3
          go_wp2_with (fail)
          go_region_with ((go_at_call 25; refine (Hp.out wc _ (by rfl)).mono ?_; rintro e w4 ⟨rfl, rfl⟩))
          all_goals
            have kb2 := HKB.out
            have hC2 := HC2.out
            have hall := HALL.out
            go_wp2_with (fail)
            go_ret2
            exact ⟨rfl, (hq1.alloc hq1.size _).drew⟩
      · by_cases hp : past < C3
        · have e2 : tokN ⟨CC, ST, TT, FF, LL⟩ x past = min KS AL := by rw [HT.out, if_neg hf, if_pos (Or.inr hp)]
          rw [e1, e2]
          clear e1 e2 HT
          go_enter Try.func22, Try.ntmps22
          go_wp2_with (fail)
          go_quiet (fail)
          go_wp2_with (fail)
          go_cut [8] from 60 to 72 (fun y wx => y = .int .i64 KM ∧ Below w.heap.size w wx)
          case first =>
            go_region_with ((go_at_call 24; rw [HW.out]; refine (Ht.out _).mono ?_; rintro e w3 ⟨rfl, hb3⟩))
            all_goals
              go_simp
              go_step
              go_meet
              exact ⟨rfl, (below_drewN (Below.refl w.heap.size w) _).trans (hb3.mono (Nat.le_refl _))⟩
          case rest =>
            obtain ⟨rfl, hq1⟩ := hcut
            clear c0 c2 c3 c4 c5
            obtain ⟨c3, lt⟩ := HK.out _ hq1
            have HKB := Lib.hid kb2
            have HC2 := Lib.hid hC2
            have HALL := Lib.hid hall
            clear kb2 hC2 hall q3
            go_wp2_with (fail)
            go_region_with ((go_at_call 25; refine (Hp.out wc _ (by rfl)).mono ?_; rintro e w4 ⟨rfl, rfl⟩))
            all_goals
              have kb2 := HKB.out
              have hC2 := HC2.out
              have hall := HALL.out
              go_wp2_with (fail)
              go_ret2
              exact ⟨rfl, (hq1.alloc hq1.size _).drew⟩
        · have e2 : tokN ⟨CC, ST, TT, FF, LL⟩ x past = TT := by rw [HT.out, if_neg hf, if_neg (by omega)]
          rw [e1, e2]
          clear e1 e2 HT Ht Hp kb kb2 hC2 n0 n1 hNN
          go_enter Try.func22, Try.ntmps22
          go_wp2_with (fail)
          go_quiet (fail)
          go_wp2_with (fail)
          go_ret2
          exact ⟨rfl, by repeat (first | exact Below.refl _ _ | apply below_drewN | apply Below.drew | apply Below.alloc | apply Below.setCell | omega | (focus (simp <;> omega)))⟩

set_option maxHeartbeats 800000 in
theorem wrate_any (s : WarmS) (t : Int) (w : World) (hok : WarmOk s) (t0 : 0 ≤ t) (t1 : t ≤ allOf s) :
    Calls Try.prog 23 #[.agg #[.int .i64 s.count, .int .i64 s.seconds, .int .i64 (warnOf s), .int .i64 (allOf s)], .int .i64 t] w fun e w' => e = .returned (.int .i64 (rateN s t)) ∧ Below w.heap.size w w' := by
  have hall := all_bd hok
  have hwn := warn_bd hok
  have q0 := hok.c1
  have q1 := hok.c2
  by_cases k1 : t < warnOf s
  · have e1 : rateN s t = s.count := by unfold rateN; rw [if_pos (Or.inl k1)]
    rw [e1]; clear e1
    go_enter Try.func23, Try.ntmps23
    go_wp2_with (fail)
    go_ret
    exact ⟨rfl, (Below.refl _ _).alloc (Nat.le_refl _) _⟩
  by_cases k2 : warnOf s = allOf s
  · have e1 : rateN s t = s.count := by unfold rateN; rw [if_pos (Or.inr k2)]
    rw [e1]; clear e1
    go_enter Try.func23, Try.ntmps23
    go_wp2_with (fail)
    go_ret
    exact ⟨rfl, (Below.refl _ _).alloc (Nat.le_refl _) _⟩
  have e1 : rateN s t = max (mdN (allOf s) s.count (4 * (t - warnOf s) + allOf s) false) 1 := by
    unfold rateN; rw [if_neg (by omega), rate_md hok (by omega) t1]
  rw [e1]; clear e1 hok
  have hmd := fun w => muldiv_any (allOf s) s.count (4 * (t - warnOf s) + allOf s) false w (by omega) (by omega) (by omega) (by omega) (by omega) (by omega)
  generalize mdN (allOf s) s.count (4 * (t - warnOf s) + allOf s) false = Q at *
  generalize mdE (allOf s) s.count (4 * (t - warnOf s) + allOf s) false = E at *
  have Hmd := Lib.hid hmd
  clear hmd
  go_enter Try.func23, Try.ntmps23
  go_wp2_with (fail)
  refine (Hmd.out _).mono ?_
  rintro e w1 ⟨rfl, hb1⟩
  go_wp2_with (fail)
  go_ret
  exact ⟨rfl, ((Below.refl _ _).alloc (Nat.le_refl _) _).trans (hb1.mono (by simp))⟩
end Go.Proofs.Ytoaggnponndlbaa
