/- The reference of the layer warmup: filledAt, Rate, Fill, Look, Take. -/
import Derived.Test.YtfcmacibblkdkaaWarmR
namespace Go.Proofs.Ytfcmacibblkdkaa
open Go.RowKit
set_option linter.unusedVariables false
set_option linter.unusedSimpArgs false


set_option maxHeartbeats 12800000 in
theorem rfilled_any (b : Nat) (s : WarmS) (x past : Int) (w : World) (h : RWarmAt w b s) (hok : WarmOk s) (x0 : 0 ≤ x) (x1 : x ≤ 1152921504606846976) (hx : s.last ≤ x) (p0 : 0 ≤ past) (p1 : past ≤ 4611686018427387904) :
    Calls Try.prog 40 #[.pointer (some ⟨b, 0, none⟩), .int .i64 x, .int .i64 past] w fun e w' => e = .returned (.tuple #[.int .i64 (fillN s x past), .int .i64 (secOf x)]) ∧ Below w.heap.size w w' := by
  have hall := all_bd hok
  have hsec := sec_after hok hx
  have q0 := hok.c1
  have q1 := hok.c2
  have q2 := hok.t1
  have q3 := hok.t2
  have q4 := hok.f1
  have q5 := hok.l2
  have q6 := hok.f2
  have HF := Lib.hid (show fillN s x past = if x - x % 1000000 = s.filled then s.tokens else max (tokN s x past - past) 0 from rfl)
  have HT := Lib.hid (show tokN s x past = if s.filled < 0 then allOf s else if s.tokens < warnOf s ∨ past < s.count / 3 then comeN s ((x - x % 1000000 - s.filled) / 1000000) else s.tokens from rfl)
  have HCN := Lib.hid (show ∀ n, comeN s n = if (allOf s - s.tokens) / s.count < n then allOf s else s.tokens + n * s.count from fun _ => rfl)
  have HCb := Lib.hid (fun n hn => comeN_bd hok (n := n) hn)
  rw [show secOf x = x - x % 1000000 from rfl] at hsec ⊢
  have Hmk := Lib.hid (fun w h => rmarks_any b s w h hok)
  have H := Lib.hid h
  have HB := Lib.hid (fun (m : Nat) => (H.out.below (below_drewN (Below.refl w.heap.size w) m)))
  obtain ⟨c0, c1, c2, c3, c4, fr, lt⟩ := h
  clear fr lt hx
  obtain ⟨CC, ST, TT, FF, LL⟩ := s
  dsimp only at *
  obtain ⟨SEC, hSEC⟩ : ∃ v, x - x % 1000000 = v := ⟨_, rfl⟩
  have hSEC2 : IntKind.i64.wrap (x - x % 1000000) = SEC := by rw [hSEC, IntKind.wrap_i64]; omega
  rw [hSEC] at hsec HT HF ⊢
  by_cases hA : SEC = FF
  · have e1 : fillN ⟨CC, ST, TT, FF, LL⟩ x past = TT := by rw [HF.out, if_pos hA]
    rw [e1]
    clear e1 hsec q3 q4 q6
    subst hA
    go_enter Try.func40, Try.ntmps40
    go_wp2_with (fail)
    first
      | (go_ret2
         exact ⟨rfl, by repeat (first | exact Below.refl _ _ | apply below_drewN | apply Below.drew | omega)⟩)
      | (go_quiet (fail)
         go_wp2_with (fail)
         first
           | (go_ret2
              exact ⟨rfl, by repeat (first | exact Below.refl _ _ | apply below_drewN | apply Below.drew | omega)⟩)
           | (go_quiet (fail)
              go_wp2_with (fail)
              first
                | (go_ret2
                   exact ⟨rfl, by repeat (first | exact Below.refl _ _ | apply below_drewN | apply Below.drew | omega)⟩)
                | (go_quiet (fail)
                   go_wp2_with (fail)
                   go_ret2
                   exact ⟨rfl, by repeat (first | exact Below.refl _ _ | apply below_drewN | apply Below.drew | omega)⟩)))
  · have e1 : fillN ⟨CC, ST, TT, FF, LL⟩ x past = max (tokN ⟨CC, ST, TT, FF, LL⟩ x past - past) 0 := by rw [HF.out, if_neg hA]
    by_cases hf : FF < 0
    · have e2 : tokN ⟨CC, ST, TT, FF, LL⟩ x past = allOf ⟨CC, ST, TT, FF, LL⟩ := by rw [HT.out, if_pos hf]
      rw [e1, e2]
      clear e1 e2 HT HF HCN HCb
      generalize allOf ⟨CC, ST, TT, FF, LL⟩ = AL at *
      generalize warnOf ⟨CC, ST, TT, FF, LL⟩ = WA at *
      by_cases hz : AL - past < 0
      · first
          | (exfalso; omega)
          | (have e3 : max (AL - past) 0 = 0 := by omega
             rw [e3]
             clear e3
             go_enter Try.func40, Try.ntmps40
             go_wp2_with (fail)
             refine (Hmk.out _ H.out).mono ?_
             rintro e w1 ⟨rfl, m, rfl⟩
             obtain ⟨c0, c1, c2, c3, c4, fr, lt⟩ := HB.out m
             dsimp only at c0 c1 c2 c3 c4
             clear fr lt
             go_wp2_with (fail)
             first
               | (go_ret2
                  exact ⟨rfl, by repeat (first | exact Below.refl _ _ | apply below_drewN | apply Below.drew | omega)⟩)
               | (go_quiet (fail)
                  go_wp2_with (fail)
                  first
                    | (go_ret2
                       exact ⟨rfl, by repeat (first | exact Below.refl _ _ | apply below_drewN | apply Below.drew | omega)⟩)
                    | (go_quiet (fail)
                       go_wp2_with (fail)
                       first
                         | (go_ret2
                            exact ⟨rfl, by repeat (first | exact Below.refl _ _ | apply below_drewN | apply Below.drew | omega)⟩)
                         | (go_quiet (fail)
                            go_wp2_with (fail)
                            go_ret2
                            exact ⟨rfl, by repeat (first | exact Below.refl _ _ | apply below_drewN | apply Below.drew | omega)⟩))))
      · have e3 : max (AL - past) 0 = AL - past := by omega
        rw [e3]
        clear e3
        go_enter Try.func40, Try.ntmps40
        go_wp2_with (fail)
        refine (Hmk.out _ H.out).mono ?_
        rintro e w1 ⟨rfl, m, rfl⟩
        obtain ⟨c0, c1, c2, c3, c4, fr, lt⟩ := HB.out m
        dsimp only at c0 c1 c2 c3 c4
        clear fr lt
        go_wp2_with (fail)
        first
          | (go_ret2
             exact ⟨rfl, by repeat (first | exact Below.refl _ _ | apply below_drewN | apply Below.drew | omega)⟩)
          | (go_quiet (fail)
             go_wp2_with (fail)
             first
               | (go_ret2
                  exact ⟨rfl, by repeat (first | exact Below.refl _ _ | apply below_drewN | apply Below.drew | omega)⟩)
               | (go_quiet (fail)
                  go_wp2_with (fail)
                  first
                    | (go_ret2
                       exact ⟨rfl, by repeat (first | exact Below.refl _ _ | apply below_drewN | apply Below.drew | omega)⟩)
                    | (go_quiet (fail)
                       go_wp2_with (fail)
                       go_ret2
                       exact ⟨rfl, by repeat (first | exact Below.refl _ _ | apply below_drewN | apply Below.drew | omega)⟩)))
    · obtain ⟨NN, hNN⟩ : ∃ v, (SEC - FF) / 1000000 = v := ⟨_, rfl⟩
      obtain ⟨C3, hC3⟩ : ∃ v, CC / 3 = v := ⟨_, rfl⟩
      have W3 : IntKind.i64.wrap (CC.tdiv 3) = C3 := by rw [Int.tdiv_eq_ediv_of_nonneg (by omega), IntKind.wrap_i64]; omega
      have HWh := Lib.hid (show IntKind.i64.wrap ((IntKind.i64.wrap (SEC - FF)).tdiv 1000000) = NN by
        have : IntKind.i64.wrap (SEC - FF) = SEC - FF := by rw [IntKind.wrap_i64]; omega
        rw [this, Int.tdiv_eq_ediv_of_nonneg (by omega), IntKind.wrap_i64]; omega)
      rw [hNN, hC3] at HT
      have n0 : 0 ≤ NN := by omega
      have n1 : NN ≤ 1152921504606 := by omega
      have hb := HCb.out NN n0
      have hcn := HCN.out NN
      obtain ⟨QQ, hQQ⟩ : ∃ v, (allOf ⟨CC, ST, TT, FF, LL⟩ - TT) / CC = v := ⟨_, rfl⟩
      obtain ⟨PR, hPR⟩ : ∃ v, NN * CC = v := ⟨_, rfl⟩
      have hPb : ¬ QQ < NN → 0 ≤ PR ∧ PR ≤ allOf ⟨CC, ST, TT, FF, LL⟩ - TT := fun hq => by
        rw [← hPR]
        exact ⟨Int.mul_nonneg n0 (by omega), (Int.le_ediv_iff_mul_le (show 0 < CC by omega)).1 (by omega)⟩
      have WQh := Lib.hid (show IntKind.i64.wrap ((IntKind.i64.wrap (allOf ⟨CC, ST, TT, FF, LL⟩ - TT)).tdiv CC) = QQ by
        have : IntKind.i64.wrap (allOf ⟨CC, ST, TT, FF, LL⟩ - TT) = allOf ⟨CC, ST, TT, FF, LL⟩ - TT := by rw [IntKind.wrap_i64]; omega
        have hq2 : QQ ≤ allOf ⟨CC, ST, TT, FF, LL⟩ - TT := by rw [← hQQ]; exact Int.ediv_le_self _ (by omega)
        have hq3 : 0 ≤ QQ := by rw [← hQQ]; exact Int.ediv_nonneg (by omega) (by omega)
        rw [this, Int.tdiv_eq_ediv_of_nonneg (by omega), hQQ, IntKind.wrap_i64]; omega)
      rw [hQQ, hPR] at hcn
      clear HF HCN HCb
      have PRh := Lib.hid hPR
      have QQh := Lib.hid hQQ
      clear hPR hQQ
      by_cases hcm : TT < warnOf ⟨CC, ST, TT, FF, LL⟩ ∨ past < C3
      · have e2 : tokN ⟨CC, ST, TT, FF, LL⟩ x past = comeN ⟨CC, ST, TT, FF, LL⟩ NN := by rw [HT.out, if_neg hf, if_pos hcm]
        rw [e1, e2]
        clear e1 e2 HT
        by_cases hqn : QQ < NN
        · rw [if_pos hqn] at hcn
          rw [hcn]
          clear hcn hPb
          generalize allOf ⟨CC, ST, TT, FF, LL⟩ = AL at *
          generalize warnOf ⟨CC, ST, TT, FF, LL⟩ = WA at *
          rcases (show TT < WA ∨ (¬ TT < WA ∧ past < C3) by omega) with k1 | ⟨k1, k2⟩
          all_goals
            clear hcm
            by_cases hz : AL - past < 0
            · first
                | (exfalso; omega)
                | (have e3 : max (AL - past) 0 = 0 := by omega
                   rw [e3]
                   clear e3
                   go_enter Try.func40, Try.ntmps40
                   go_wp2_with (fail)
                   refine (Hmk.out _ H.out).mono ?_
                   rintro e w1 ⟨rfl, m, rfl⟩
                   obtain ⟨c0, c1, c2, c3, c4, fr, lt⟩ := HB.out m
                   dsimp only at c0 c1 c2 c3 c4
                   clear fr lt
                   have HW := HWh.out
                   have WQ := WQh.out
                   have hPR := PRh.out
                   have hQQ := QQh.out
                   go_wp2_with (fail)
                   first
                     | (go_ret2
                        exact ⟨rfl, by repeat (first | exact Below.refl _ _ | apply below_drewN | apply Below.drew | omega)⟩)
                     | (go_quiet (fail)
                        go_wp2_with (fail)
                        first
                          | (go_ret2
                             exact ⟨rfl, by repeat (first | exact Below.refl _ _ | apply below_drewN | apply Below.drew | omega)⟩)
                          | (go_quiet (fail)
                             go_wp2_with (fail)
                             first
                               | (go_ret2
                                  exact ⟨rfl, by repeat (first | exact Below.refl _ _ | apply below_drewN | apply Below.drew | omega)⟩)
                               | (go_quiet (fail)
                                  go_wp2_with (fail)
                                  go_ret2
                                  exact ⟨rfl, by repeat (first | exact Below.refl _ _ | apply below_drewN | apply Below.drew | omega)⟩))))
            · have e3 : max (AL - past) 0 = AL - past := by omega
              rw [e3]
              clear e3
              go_enter Try.func40, Try.ntmps40
              go_wp2_with (fail)
              refine (Hmk.out _ H.out).mono ?_
              rintro e w1 ⟨rfl, m, rfl⟩
              obtain ⟨c0, c1, c2, c3, c4, fr, lt⟩ := HB.out m
              dsimp only at c0 c1 c2 c3 c4
              clear fr lt
              have HW := HWh.out
              have WQ := WQh.out
              have hPR := PRh.out
              have hQQ := QQh.out
              go_wp2_with (fail)
              first
                | (go_ret2
                   exact ⟨rfl, by repeat (first | exact Below.refl _ _ | apply below_drewN | apply Below.drew | omega)⟩)
                | (go_quiet (fail)
                   go_wp2_with (fail)
                   first
                     | (go_ret2
                        exact ⟨rfl, by repeat (first | exact Below.refl _ _ | apply below_drewN | apply Below.drew | omega)⟩)
                     | (go_quiet (fail)
                        go_wp2_with (fail)
                        first
                          | (go_ret2
                             exact ⟨rfl, by repeat (first | exact Below.refl _ _ | apply below_drewN | apply Below.drew | omega)⟩)
                          | (go_quiet (fail)
                             go_wp2_with (fail)
                             go_ret2
                             exact ⟨rfl, by repeat (first | exact Below.refl _ _ | apply below_drewN | apply Below.drew | omega)⟩)))
        · rw [if_neg hqn] at hcn
          rw [hcn]
          rw [hcn] at hb
          clear hcn
          have hpb := hPb hqn
          clear hPb
          generalize allOf ⟨CC, ST, TT, FF, LL⟩ = AL at *
          generalize warnOf ⟨CC, ST, TT, FF, LL⟩ = WA at *
          rcases (show TT < WA ∨ (¬ TT < WA ∧ past < C3) by omega) with k1 | ⟨k1, k2⟩
          all_goals
            clear hcm
            by_cases hz : (TT + PR) - past < 0
            · first
                | (exfalso; omega)
                | (have e3 : max ((TT + PR) - past) 0 = 0 := by omega
                   rw [e3]
                   clear e3
                   go_enter Try.func40, Try.ntmps40
                   go_wp2_with (fail)
                   refine (Hmk.out _ H.out).mono ?_
                   rintro e w1 ⟨rfl, m, rfl⟩
                   obtain ⟨c0, c1, c2, c3, c4, fr, lt⟩ := HB.out m
                   dsimp only at c0 c1 c2 c3 c4
                   clear fr lt
                   have HW := HWh.out
                   have WQ := WQh.out
                   have hPR := PRh.out
                   have hQQ := QQh.out
                   go_wp2_with (fail)
                   first
                     | (go_ret2
                        exact ⟨rfl, by repeat (first | exact Below.refl _ _ | apply below_drewN | apply Below.drew | omega)⟩)
                     | (go_quiet (fail)
                        go_wp2_with (fail)
                        first
                          | (go_ret2
                             exact ⟨rfl, by repeat (first | exact Below.refl _ _ | apply below_drewN | apply Below.drew | omega)⟩)
                          | (go_quiet (fail)
                             go_wp2_with (fail)
                             first
                               | (go_ret2
                                  exact ⟨rfl, by repeat (first | exact Below.refl _ _ | apply below_drewN | apply Below.drew | omega)⟩)
                               | (go_quiet (fail)
                                  go_wp2_with (fail)
                                  go_ret2
                                  exact ⟨rfl, by repeat (first | exact Below.refl _ _ | apply below_drewN | apply Below.drew | omega)⟩))))
            · have e3 : max ((TT + PR) - past) 0 = (TT + PR) - past := by omega
              rw [e3]
              clear e3
              go_enter Try.func40, Try.ntmps40
              go_wp2_with (fail)
              refine (Hmk.out _ H.out).mono ?_
              rintro e w1 ⟨rfl, m, rfl⟩
              obtain ⟨c0, c1, c2, c3, c4, fr, lt⟩ := HB.out m
              dsimp only at c0 c1 c2 c3 c4
              clear fr lt
              have HW := HWh.out
              have WQ := WQh.out
              have hPR := PRh.out
              have hQQ := QQh.out
              go_wp2_with (fail)
              first
                | (go_ret2
                   exact ⟨rfl, by repeat (first | exact Below.refl _ _ | apply below_drewN | apply Below.drew | omega)⟩)
                | (go_quiet (fail)
                   go_wp2_with (fail)
                   first
                     | (go_ret2
                        exact ⟨rfl, by repeat (first | exact Below.refl _ _ | apply below_drewN | apply Below.drew | omega)⟩)
                     | (go_quiet (fail)
                        go_wp2_with (fail)
                        first
                          | (go_ret2
                             exact ⟨rfl, by repeat (first | exact Below.refl _ _ | apply below_drewN | apply Below.drew | omega)⟩)
                          | (go_quiet (fail)
                             go_wp2_with (fail)
                             go_ret2
                             exact ⟨rfl, by repeat (first | exact Below.refl _ _ | apply below_drewN | apply Below.drew | omega)⟩)))
      · have e2 : tokN ⟨CC, ST, TT, FF, LL⟩ x past = TT := by rw [HT.out, if_neg hf, if_neg hcm]
        rw [e1, e2]
        clear e1 e2 HT hcn hPb PRh HWh WQh hNN QQh
        generalize allOf ⟨CC, ST, TT, FF, LL⟩ = AL at *
        generalize warnOf ⟨CC, ST, TT, FF, LL⟩ = WA at *
        have hcm1 : ¬ TT < WA := by omega
        have hcm2 : ¬ past < C3 := by omega
        clear hcm
        by_cases hz : TT - past < 0
        · first
            | (exfalso; omega)
            | (have e3 : max (TT - past) 0 = 0 := by omega
               rw [e3]
               clear e3
               go_enter Try.func40, Try.ntmps40
               go_wp2_with (fail)
               refine (Hmk.out _ H.out).mono ?_
               rintro e w1 ⟨rfl, m, rfl⟩
               obtain ⟨c0, c1, c2, c3, c4, fr, lt⟩ := HB.out m
               dsimp only at c0 c1 c2 c3 c4
               clear fr lt
               go_wp2_with (fail)
               first
                 | (go_ret2
                    exact ⟨rfl, by repeat (first | exact Below.refl _ _ | apply below_drewN | apply Below.drew | omega)⟩)
                 | (go_quiet (fail)
                    go_wp2_with (fail)
                    first
                      | (go_ret2
                         exact ⟨rfl, by repeat (first | exact Below.refl _ _ | apply below_drewN | apply Below.drew | omega)⟩)
                      | (go_quiet (fail)
                         go_wp2_with (fail)
                         first
                           | (go_ret2
                              exact ⟨rfl, by repeat (first | exact Below.refl _ _ | apply below_drewN | apply Below.drew | omega)⟩)
                           | (go_quiet (fail)
                              go_wp2_with (fail)
                              go_ret2
                              exact ⟨rfl, by repeat (first | exact Below.refl _ _ | apply below_drewN | apply Below.drew | omega)⟩))))
        · have e3 : max (TT - past) 0 = TT - past := by omega
          rw [e3]
          clear e3
          go_enter Try.func40, Try.ntmps40
          go_wp2_with (fail)
          refine (Hmk.out _ H.out).mono ?_
          rintro e w1 ⟨rfl, m, rfl⟩
          obtain ⟨c0, c1, c2, c3, c4, fr, lt⟩ := HB.out m
          dsimp only at c0 c1 c2 c3 c4
          clear fr lt
          go_wp2_with (fail)
          first
            | (go_ret2
               exact ⟨rfl, by repeat (first | exact Below.refl _ _ | apply below_drewN | apply Below.drew | omega)⟩)
            | (go_quiet (fail)
               go_wp2_with (fail)
               first
                 | (go_ret2
                    exact ⟨rfl, by repeat (first | exact Below.refl _ _ | apply below_drewN | apply Below.drew | omega)⟩)
                 | (go_quiet (fail)
                    go_wp2_with (fail)
                    first
                      | (go_ret2
                         exact ⟨rfl, by repeat (first | exact Below.refl _ _ | apply below_drewN | apply Below.drew | omega)⟩)
                      | (go_quiet (fail)
                         go_wp2_with (fail)
                         go_ret2
                         exact ⟨rfl, by repeat (first | exact Below.refl _ _ | apply below_drewN | apply Below.drew | omega)⟩)))
end Go.Proofs.Ytfcmacibblkdkaa
