/- BreakerBetter: with fewer bad ends a breaker opens not sooner. -/
import Derived.Test.YtejkfmepiagabaaBrI
namespace Go.Proofs.Ytejkfmepiagabaa
open Go.RowKit
set_option linter.unusedVariables false
set_option linter.unusedSimpArgs false

/-- A row of truth values that came in. -/
def BoolsAt (w : World) (a : Option Addr) (len : Nat) (G : Nat → Bool) : Prop := len = 0 ∨ ∃ b off, a = some ⟨b, off, none⟩ ∧ b < w.heap.size ∧ ∀ j, j < len → w.cell? ⟨b, off + j, none⟩ = some (.bool (G j))

set_option maxHeartbeats 25600000 in
set_option maxRecDepth 100000 in
theorem brbetter_run (w : World) (r : BreakS) (hz : r.res.size ≤ maxLen) (a : Option Addr) (len cap : Nat) (hm : len ≤ 140737488351232) (K A R : Nat → Int) (F P : Nat → Bool) (hd : DeedsB w a len K A R F P)
    (a3 : Option Addr) (len3 cap3 : Nat) (hm3 : len3 ≤ 140737488351232) (G : Nat → Bool) (hg : BoolsAt w a3 len3 G) :
    Calls Try.prog 6 #[r.v, .slice a len cap, .slice a3 len3 cap3] w fun e w' => e = .returned (.bool true) ∧ Below w.heap.size w w' := by
  have HD1 := Lib.hid hd
  have HG := Lib.hid hg
  have hbx : Below w.heap.size w (w.alloc (brkO r)) := (Below.refl _ _).alloc (Nat.le_refl _) _
  have hN : (w.alloc (brkO r)).heap[w.heap.size]? = some (brkO r) := (get_allocW w _ _).trans (if_pos rfl)
  have hnz : w.heap.size < (w.alloc (brkO r)).heap.size := by simp
  have HBX := Lib.hid hbx
  have HN := Lib.hid hN
  have HNZ := Lib.hid hnz
  have HNEW := Lib.hid (fun (wx : World) => bnew_any r hz wx)
  have HCB := Lib.hid (fun (wx : World) (h : wx.heap[w.heap.size]? = some (brkO r)) => brk_box (g := w.heap.size) (fr := (0, 0)) h)
  clear hd hg hz hbx hN hnz
  unfold brkO BreakS.cells at HBX HNZ
  unfold BreakS.v BreakS.cells at HNEW
  unfold BreakS.v BreakS.cells
  rw [show brkO r = .cells #[.string r.res, .int .u8 r.gr, .int .i64 r.cnt, .int .i64 r.slow, .int .i64 r.least, .int .i64 r.win, .int .i64 r.rec_] 50 from rfl] at HN HCB
  go_enter Try.func6, Try.ntmps6
  go_wp2_with (fail)
  refine (brlive_any _).mono ?_
  rintro e w1 ⟨rfl, h1⟩
  have hn1 := (h1.block w.heap.size HNZ.out).trans HN.out
  have HN1 := Lib.hid hn1
  obtain ⟨c0, c1, c2, c3, c4, c5, c6⟩ := HCB.out w1 hn1
  have HNZ1 := Lib.hid (Nat.lt_of_lt_of_le HNZ.out h1.size)
  have HB1 := Lib.hid (HBX.out.trans (h1.mono HBX.out.size))
  clear hn1 h1 HBX HN HNZ
  go_wp2_with (fail)
  clear c0 c1 c2 c3 c4 c5 c6
  by_cases hE : breakE r = 0
  · refine (HNEW.out _).mono ?_
    rintro e w2 hnew
    obtain ⟨q, p, m, rfl, h2, h3, h4, h5, h6⟩ := hnew.yes hE
    obtain ⟨c0, c1, c2, c3, c4, c5, c6⟩ := HCB.out w2 ((h3.block w.heap.size HNZ1.out).trans HN1.out)
    have HA2 := Lib.hid h2
    have HB2 := Lib.hid (HB1.out.trans (h3.mono HB1.out.size))
    have HOW := Lib.hid (show ∀ i, BOwn q p m i → w.heap.size ≤ i from fun i hi => by have := HB1.out.size; rcases hi with e | e | e <;> omega)
    clear hnew h2 h3 h4 h5 h6 HB1 HN1 HNZ1 HCB
    go_wp2_with (fail)
    clear c0 c1 c2 c3 c4 c5 c6
    refine (HNEW.out _).mono ?_
    rintro e w3 hnew
    obtain ⟨qb, p2, m2, rfl, h2, h3, h4, h5, h6⟩ := hnew.yes hE
    have HB3 := Lib.hid (show Br2 w w3 q qb r new0 new0 [] from by
      have hs := HB2.out.size
      exact ⟨⟨p, m, p2, m2, HA2.out.below h3, h2, fun i hi => ⟨HOW.out i hi, fun e => by have := HA2.out.lt hi; rcases e with e | e | e <;> omega⟩, fun i hi => by rcases hi with e | e | e <;> omega, fun x hx => by cases hx⟩, HB2.out.trans (h3.mono hs)⟩)
    clear HNEW hE h2 h3 h4 h5 h6 hnew HB2 HA2 HOW
    go_wp2_with (fail)
    go_loopw [11] (fun iv wr => ∃ (j : Nat) (sa sb : BrS), j ≤ len ∧ iv = .int .i64 j ∧ Hid (Br2 w wr q qb r sa sb []) ∧ Hid (AlikeS sa sb)) (fun i _ => len - (intOf i).toNat)
    case atStart => exact ⟨0, _, _, Nat.zero_le _, rfl, HB3, Lib.hid ⟨rfl, rfl, rfl, .nil⟩⟩
    case round =>
      rename World => wy
      clear HB3
      obtain ⟨j, sa, sb, hj, rfl, HB, HAL⟩ := hrel
      by_cases hlt : j < len
      · have j0 : (0 : Int) ≤ j := by omega
        have j1 : (j : Int) < len := by omega
        obtain ⟨b0, off, ha, hcc⟩ := HD1.out.of hlt
        subst ha
        obtain ⟨d0, d1, d2, d3, d4⟩ := hcc wy HB.out.bel
        generalize K j = KD at *
        generalize A j = AT at *
        generalize R j = RT at *
        generalize F j = FB at *
        generalize P j = PB at *
        clear hcc
        have HOK := Lib.hid (show BreakOk r by obtain ⟨_, _, _, _, h, _⟩ := HB.out.ex; exact h.ok)
        have HSZ := Lib.hid HB.out.bel.size
        have HB4 := Lib.hid (HB.out.alloc (.cells #[.int .i64 KD, .int .i64 AT, .int .i64 RT, .bool FB, .bool PB] 57))
        have HOA := Lib.hid (br2_done HB4.out AT RT FB false)
        clear HB
        go_wp2_with (fail)
        refine HOA.out.mono ?_
        rintro e w5 ⟨rfl, h5⟩
        have H5 := Lib.hid h5
        clear h5 HOA HB4 d0 d1 d2 d3 d4
        obtain ⟨db, hdb⟩ : ∃ db, wy.heap.size = db := ⟨_, rfl⟩
        rw [hdb] at H5 HSZ ⊢
        clear hdb
        have hbxx : w5.heap[db]? = some (.cells #[.int .i64 KD, .int .i64 AT, .int .i64 RT, .bool FB, .bool PB] 57) := by obtain ⟨_, _, _, _, _, _, _, _, h⟩ := H5.out.ex; exact (h _ (List.mem_cons_self ..)).1
        have y1 : w5.cell? ⟨db, 1, none⟩ = some (.int .i64 AT) := by simp only [World.cell?, hbxx]; rfl
        have y2 : w5.cell? ⟨db, 2, none⟩ = some (.int .i64 RT) := by simp only [World.cell?, hbxx]; rfl
        have y3 : w5.cell? ⟨db, 3, none⟩ = some (.bool FB) := by simp only [World.cell?, hbxx]; rfl
        have z2 : w5.frozen? ⟨db, 2, none⟩ = false := frozen_of_row w5 db 2 _ _ hbxx
        have z3 : w5.frozen? ⟨db, 3, none⟩ = false := frozen_of_row w5 db 3 _ _ hbxx
        clear hbxx
        by_cases hl3 : j < len3
        · have l1 : (j : Int) < len3 := by omega
          obtain ⟨b3, off3, ha3, hb3, hc3⟩ : ∃ b off, a3 = some ⟨b, off, none⟩ ∧ b < w.heap.size ∧ ∀ j, j < len3 → w.cell? ⟨b, off + j, none⟩ = some (.bool (G j)) := by
            rcases HG.out with h | h
            · omega
            · exact h
          subst ha3
          have x0 := (H5.out.bel.cell (p := ⟨b3, off3 + j, none⟩) hb3).trans (hc3 j hl3)
          clear hc3
          cases hG : G j with
          | false =>
            rw [hG] at x0
            as_aux_lemma =>
              have HER := Lib.hid (alike_err HAL.out AT RT RT rfl)
              have HDN := Lib.hid (alike_done (r := r) HAL.out AT RT RT FB FB rfl id)
              have HOB := Lib.hid (br2_done H5.out.swap AT RT FB false)
              rw [← HER.out] at HOB
              obtain ⟨EX, hEX⟩ : ∃ EX, bdoneE sa AT RT false = EX := ⟨_, rfl⟩
              rw [hEX] at HOB ⊢
              clear hEX HER
              go_wp2_with (fail)
              refine HOB.out.mono ?_
              rintro e w6 ⟨rfl, h6⟩
              have H6 := Lib.hid h6
              clear h6 HOB
              have HSB := Lib.hid (br2_state H6.out)
              have HSA := Lib.hid (br2_state H6.out.swap)
              rcases HDN.out with h2 | h2
              · rw [h2] at HSA
                generalize (bdoneS r sb AT RT FB false).st = TB at HSB
                by_cases hTB : TB = 2
                · subst hTB
                  clear h2 HDN
                  go_wp2_with (fail)
                  refine HSB.out.mono ?_
                  rintro e wq ⟨rfl, hq⟩
                  have hq := hq.symm
                  subst hq
                  go_wp2_with (fail)
                  refine HSA.out.mono ?_
                  rintro e wq ⟨rfl, hq⟩
                  have hq := hq.symm
                  subst hq
                  go_wp2_with (fail)
                  refine HSA.out.mono ?_
                  rintro e wq ⟨rfl, hq⟩
                  have hq := hq.symm
                  subst hq
                  go_wp2_with (fail)
                  go_ret
                  exact ⟨rfl, H6.out.bel⟩
                · have nTB : (TB == 2) = false := by simpa using hTB
                  clear h2 HDN hTB
                  go_wp2_with (fail)
                  refine HSB.out.mono ?_
                  rintro e wq ⟨rfl, hq⟩
                  have hq := hq.symm
                  subst hq
                  go_wp2_with (fail)
                  refine HSA.out.mono ?_
                  rintro e wq ⟨rfl, hq⟩
                  have hq := hq.symm
                  subst hq
                  go_wp2_with (fail)
                  go_ret
                  exact ⟨rfl, H6.out.bel⟩
              · have HAL2 := Lib.hid h2
                rw [h2.a1] at HSA
                rw [h2.b1] at HSB
                clear h2 HDN
                go_wp2_with (fail)
                refine HSB.out.mono ?_
                rintro e wq ⟨rfl, hq⟩
                have hq := hq.symm
                subst hq
                go_wp2_with (fail)
                refine HSA.out.mono ?_
                rintro e wq ⟨rfl, hq⟩
                have hq := hq.symm
                subst hq
                go_wp2_with (fail)
                exact ⟨⟨j + 1, _, _, by omega, by go_num, Lib.hid H6.out.swap.nil, HAL2⟩, by first | (simp [intOf]; done) | (simp [intOf]; omega)⟩
          | true =>
            rw [hG] at x0
            by_cases hr0 : RT < 0
            · have r0 : ¬ 0 ≤ RT := by omega
              as_aux_lemma =>
                have HER := Lib.hid (alike_err HAL.out AT RT RT rfl)
                have HDN := Lib.hid (alike_done (r := r) HAL.out AT RT RT FB FB rfl id)
                have HOB := Lib.hid (br2_done H5.out.swap AT RT FB false)
                rw [← HER.out] at HOB
                obtain ⟨EX, hEX⟩ : ∃ EX, bdoneE sa AT RT false = EX := ⟨_, rfl⟩
                rw [hEX] at HOB ⊢
                clear hEX HER
                go_wp2_with (fail)
                refine HOB.out.mono ?_
                rintro e w6 ⟨rfl, h6⟩
                have H6 := Lib.hid h6
                clear h6 HOB
                have HSB := Lib.hid (br2_state H6.out)
                have HSA := Lib.hid (br2_state H6.out.swap)
                rcases HDN.out with h2 | h2
                · rw [h2] at HSA
                  generalize (bdoneS r sb AT RT FB false).st = TB at HSB
                  by_cases hTB : TB = 2
                  · subst hTB
                    clear h2 HDN
                    go_wp2_with (fail)
                    refine HSB.out.mono ?_
                    rintro e wq ⟨rfl, hq⟩
                    have hq := hq.symm
                    subst hq
                    go_wp2_with (fail)
                    refine HSA.out.mono ?_
                    rintro e wq ⟨rfl, hq⟩
                    have hq := hq.symm
                    subst hq
                    go_wp2_with (fail)
                    refine HSA.out.mono ?_
                    rintro e wq ⟨rfl, hq⟩
                    have hq := hq.symm
                    subst hq
                    go_wp2_with (fail)
                    go_ret
                    exact ⟨rfl, H6.out.bel⟩
                  · have nTB : (TB == 2) = false := by simpa using hTB
                    clear h2 HDN hTB
                    go_wp2_with (fail)
                    refine HSB.out.mono ?_
                    rintro e wq ⟨rfl, hq⟩
                    have hq := hq.symm
                    subst hq
                    go_wp2_with (fail)
                    refine HSA.out.mono ?_
                    rintro e wq ⟨rfl, hq⟩
                    have hq := hq.symm
                    subst hq
                    go_wp2_with (fail)
                    go_ret
                    exact ⟨rfl, H6.out.bel⟩
                · have HAL2 := Lib.hid h2
                  rw [h2.a1] at HSA
                  rw [h2.b1] at HSB
                  clear h2 HDN
                  go_wp2_with (fail)
                  refine HSB.out.mono ?_
                  rintro e wq ⟨rfl, hq⟩
                  have hq := hq.symm
                  subst hq
                  go_wp2_with (fail)
                  refine HSA.out.mono ?_
                  rintro e wq ⟨rfl, hq⟩
                  have hq := hq.symm
                  subst hq
                  go_wp2_with (fail)
                  exact ⟨⟨j + 1, _, _, by omega, by go_num, Lib.hid H6.out.swap.nil, HAL2⟩, by first | (simp [intOf]; done) | (simp [intOf]; omega)⟩
            · have r0 : 0 ≤ RT := by omega
              by_cases hr1 : RT ≤ 1152921504606846976
              · have H5X := Lib.hid ((H5.out.box HSZ.out 2 (.int .i64 0)).box HSZ.out 3 (.bool false))
                have hrT : isT RT = isT 0 := by unfold isT; rw [decide_eq_true r0, decide_eq_true hr1]; rfl
                have hbW : badB r 0 false = true → badB r RT FB = true := fun h => by rw [bad_well HOK.out] at h; cases h
                as_aux_lemma =>
                  have HER := Lib.hid (alike_err HAL.out AT RT 0 hrT)
                  have HDN := Lib.hid (alike_done (r := r) HAL.out AT RT 0 FB false hrT hbW)
                  have HOB := Lib.hid (br2_done H5X.out.swap AT 0 false false)
                  rw [← HER.out] at HOB
                  obtain ⟨EX, hEX⟩ : ∃ EX, bdoneE sa AT RT false = EX := ⟨_, rfl⟩
                  rw [hEX] at HOB ⊢
                  clear hEX HER
                  go_wp2_with (fail)
                  refine HOB.out.mono ?_
                  rintro e w6 ⟨rfl, h6⟩
                  have H6 := Lib.hid h6
                  clear h6 HOB
                  have HSB := Lib.hid (br2_state H6.out)
                  have HSA := Lib.hid (br2_state H6.out.swap)
                  rcases HDN.out with h2 | h2
                  · rw [h2] at HSA
                    generalize (bdoneS r sb AT 0 false false).st = TB at HSB
                    by_cases hTB : TB = 2
                    · subst hTB
                      clear h2 HDN
                      go_wp2_with (fail)
                      refine HSB.out.mono ?_
                      rintro e wq ⟨rfl, hq⟩
                      have hq := hq.symm
                      subst hq
                      go_wp2_with (fail)
                      refine HSA.out.mono ?_
                      rintro e wq ⟨rfl, hq⟩
                      have hq := hq.symm
                      subst hq
                      go_wp2_with (fail)
                      refine HSA.out.mono ?_
                      rintro e wq ⟨rfl, hq⟩
                      have hq := hq.symm
                      subst hq
                      go_wp2_with (fail)
                      go_ret
                      exact ⟨rfl, H6.out.bel⟩
                    · have nTB : (TB == 2) = false := by simpa using hTB
                      clear h2 HDN hTB
                      go_wp2_with (fail)
                      refine HSB.out.mono ?_
                      rintro e wq ⟨rfl, hq⟩
                      have hq := hq.symm
                      subst hq
                      go_wp2_with (fail)
                      refine HSA.out.mono ?_
                      rintro e wq ⟨rfl, hq⟩
                      have hq := hq.symm
                      subst hq
                      go_wp2_with (fail)
                      go_ret
                      exact ⟨rfl, H6.out.bel⟩
                  · have HAL2 := Lib.hid h2
                    rw [h2.a1] at HSA
                    rw [h2.b1] at HSB
                    clear h2 HDN
                    go_wp2_with (fail)
                    refine HSB.out.mono ?_
                    rintro e wq ⟨rfl, hq⟩
                    have hq := hq.symm
                    subst hq
                    go_wp2_with (fail)
                    refine HSA.out.mono ?_
                    rintro e wq ⟨rfl, hq⟩
                    have hq := hq.symm
                    subst hq
                    go_wp2_with (fail)
                    exact ⟨⟨j + 1, _, _, by omega, by go_num, Lib.hid H6.out.swap.nil, HAL2⟩, by first | (simp [intOf]; done) | (simp [intOf]; omega)⟩
              · have hr2 : ¬ RT ≤ 1152921504606846976 := hr1
                as_aux_lemma =>
                  have HER := Lib.hid (alike_err HAL.out AT RT RT rfl)
                  have HDN := Lib.hid (alike_done (r := r) HAL.out AT RT RT FB FB rfl id)
                  have HOB := Lib.hid (br2_done H5.out.swap AT RT FB false)
                  rw [← HER.out] at HOB
                  obtain ⟨EX, hEX⟩ : ∃ EX, bdoneE sa AT RT false = EX := ⟨_, rfl⟩
                  rw [hEX] at HOB ⊢
                  clear hEX HER
                  go_wp2_with (fail)
                  refine HOB.out.mono ?_
                  rintro e w6 ⟨rfl, h6⟩
                  have H6 := Lib.hid h6
                  clear h6 HOB
                  have HSB := Lib.hid (br2_state H6.out)
                  have HSA := Lib.hid (br2_state H6.out.swap)
                  rcases HDN.out with h2 | h2
                  · rw [h2] at HSA
                    generalize (bdoneS r sb AT RT FB false).st = TB at HSB
                    by_cases hTB : TB = 2
                    · subst hTB
                      clear h2 HDN
                      go_wp2_with (fail)
                      refine HSB.out.mono ?_
                      rintro e wq ⟨rfl, hq⟩
                      have hq := hq.symm
                      subst hq
                      go_wp2_with (fail)
                      refine HSA.out.mono ?_
                      rintro e wq ⟨rfl, hq⟩
                      have hq := hq.symm
                      subst hq
                      go_wp2_with (fail)
                      refine HSA.out.mono ?_
                      rintro e wq ⟨rfl, hq⟩
                      have hq := hq.symm
                      subst hq
                      go_wp2_with (fail)
                      go_ret
                      exact ⟨rfl, H6.out.bel⟩
                    · have nTB : (TB == 2) = false := by simpa using hTB
                      clear h2 HDN hTB
                      go_wp2_with (fail)
                      refine HSB.out.mono ?_
                      rintro e wq ⟨rfl, hq⟩
                      have hq := hq.symm
                      subst hq
                      go_wp2_with (fail)
                      refine HSA.out.mono ?_
                      rintro e wq ⟨rfl, hq⟩
                      have hq := hq.symm
                      subst hq
                      go_wp2_with (fail)
                      go_ret
                      exact ⟨rfl, H6.out.bel⟩
                  · have HAL2 := Lib.hid h2
                    rw [h2.a1] at HSA
                    rw [h2.b1] at HSB
                    clear h2 HDN
                    go_wp2_with (fail)
                    refine HSB.out.mono ?_
                    rintro e wq ⟨rfl, hq⟩
                    have hq := hq.symm
                    subst hq
                    go_wp2_with (fail)
                    refine HSA.out.mono ?_
                    rintro e wq ⟨rfl, hq⟩
                    have hq := hq.symm
                    subst hq
                    go_wp2_with (fail)
                    exact ⟨⟨j + 1, _, _, by omega, by go_num, Lib.hid H6.out.swap.nil, HAL2⟩, by first | (simp [intOf]; done) | (simp [intOf]; omega)⟩
        · have l1 : ¬ (j : Int) < len3 := by omega
          as_aux_lemma =>
            have HER := Lib.hid (alike_err HAL.out AT RT RT rfl)
            have HDN := Lib.hid (alike_done (r := r) HAL.out AT RT RT FB FB rfl id)
            have HOB := Lib.hid (br2_done H5.out.swap AT RT FB false)
            rw [← HER.out] at HOB
            obtain ⟨EX, hEX⟩ : ∃ EX, bdoneE sa AT RT false = EX := ⟨_, rfl⟩
            rw [hEX] at HOB ⊢
            clear hEX HER
            go_wp2_with (fail)
            refine HOB.out.mono ?_
            rintro e w6 ⟨rfl, h6⟩
            have H6 := Lib.hid h6
            clear h6 HOB
            have HSB := Lib.hid (br2_state H6.out)
            have HSA := Lib.hid (br2_state H6.out.swap)
            rcases HDN.out with h2 | h2
            · rw [h2] at HSA
              generalize (bdoneS r sb AT RT FB false).st = TB at HSB
              by_cases hTB : TB = 2
              · subst hTB
                clear h2 HDN
                go_wp2_with (fail)
                refine HSB.out.mono ?_
                rintro e wq ⟨rfl, hq⟩
                have hq := hq.symm
                subst hq
                go_wp2_with (fail)
                refine HSA.out.mono ?_
                rintro e wq ⟨rfl, hq⟩
                have hq := hq.symm
                subst hq
                go_wp2_with (fail)
                refine HSA.out.mono ?_
                rintro e wq ⟨rfl, hq⟩
                have hq := hq.symm
                subst hq
                go_wp2_with (fail)
                go_ret
                exact ⟨rfl, H6.out.bel⟩
              · have nTB : (TB == 2) = false := by simpa using hTB
                clear h2 HDN hTB
                go_wp2_with (fail)
                refine HSB.out.mono ?_
                rintro e wq ⟨rfl, hq⟩
                have hq := hq.symm
                subst hq
                go_wp2_with (fail)
                refine HSA.out.mono ?_
                rintro e wq ⟨rfl, hq⟩
                have hq := hq.symm
                subst hq
                go_wp2_with (fail)
                go_ret
                exact ⟨rfl, H6.out.bel⟩
            · have HAL2 := Lib.hid h2
              rw [h2.a1] at HSA
              rw [h2.b1] at HSB
              clear h2 HDN
              go_wp2_with (fail)
              refine HSB.out.mono ?_
              rintro e wq ⟨rfl, hq⟩
              have hq := hq.symm
              subst hq
              go_wp2_with (fail)
              refine HSA.out.mono ?_
              rintro e wq ⟨rfl, hq⟩
              have hq := hq.symm
              subst hq
              go_wp2_with (fail)
              exact ⟨⟨j + 1, _, _, by omega, by go_num, Lib.hid H6.out.swap.nil, HAL2⟩, by first | (simp [intOf]; done) | (simp [intOf]; omega)⟩
      · have j1 : ¬ (j : Int) < len := by omega
        go_wp2_with (fail)
        go_ret
        exact ⟨rfl, HB.out.bel⟩
  · refine (HNEW.out _).mono ?_
    rintro e w2 hnew
    obtain ⟨rfl, h2⟩ := hnew.no hE
    obtain ⟨c0, c1, c2, c3, c4, c5, c6⟩ := HCB.out w2 ((h2.block w.heap.size HNZ1.out).trans HN1.out)
    have HB2 := Lib.hid (HB1.out.trans (h2.mono HB1.out.size))
    have HNE := Lib.hid hE
    obtain ⟨E, hEE⟩ : ∃ E, breakE r = E := ⟨_, rfl⟩
    have HEE := Lib.hid hEE
    rw [hEE] at hE ⊢
    have hne : (E != 0) = true := by simpa using hE
    clear hE h2 HB1 hnew hEE HN1 HNZ1 HCB
    go_wp2_with (fail)
    clear c0 c1 c2 c3 c4 c5 c6
    refine (HNEW.out _).mono ?_
    rintro e w3 hnew
    obtain ⟨rfl, h3⟩ := hnew.no HNE.out
    rw [HEE.out]
    have HB3 := Lib.hid (HB2.out.trans (h3.mono HB2.out.size))
    clear hnew h3 HNEW HB2
    go_wp2_with (fail)
    go_ret
    exact ⟨by simp, HB3.out⟩
end Go.Proofs.Ytejkfmepiagabaa
