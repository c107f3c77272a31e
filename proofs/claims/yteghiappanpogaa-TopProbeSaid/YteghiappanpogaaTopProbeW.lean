/- TopProbe: the walk. -/
import Derived.Test.YteghiappanpogaaTopProbe
namespace Go.Proofs.Yteghiappanpogaa
open Go.RowKit
set_option linter.unusedVariables false
set_option linter.unusedSimpArgs false

theorem IntsAt.belowP {w w' : World} {a : Option Addr} {xs : List Int} (h : IntsAt w a xs) (hb : Below w.heap.size w w') : IntsAt w' a xs := by
  rcases h with h | ⟨b, off, e, hbl, hc⟩
  · exact Or.inl h
  · exact Or.inr ⟨b, off, e, Nat.lt_of_lt_of_le hbl hb.size, fun j hj => (hb.cell hbl).trans (hc j hj)⟩
theorem IntsAt.getP {w : World} {a : Option Addr} {xs : List Int} (h : IntsAt w a xs) {k : Nat} {y : Int} (hy : xs[k]? = some y) : ∃ b off, a = some ⟨b, off, none⟩ ∧ b < w.heap.size ∧ w.cell? ⟨b, off + k, none⟩ = some (.int .i64 y) := by
  obtain ⟨hk, rfl⟩ := List.getElem?_eq_some_iff.1 hy
  rcases h with rfl | ⟨b, off, e, hb, hc⟩
  · simp at hk
  · refine ⟨b, off, e, hb, ?_⟩
    rw [hc k hk]; simp [List.getD, hk]
set_option maxHeartbeats 12800000 in
set_option maxRecDepth 100000 in
theorem tprobe_walk (w : World) (count : Int) (wc : (Lit.int .i64 count).wf = true) (a : Option Addr) (len cap : Nat) (xs : List Int) (hl : xs.length = len) (hm : len * 8 ≤ 140737488351232) (hx : I64s xs) (hr : IntsAt w a xs) (hn : 0 < len → a ≠ none) (hc : a = none → cap = 0) :
    Calls Try.prog 3 #[.int .i64 count, .slice a len cap] w fun e w' => e = .returned (.bool true) ∧ Below w.heap.size w w' := by
  simp only [Lit.wf, IntKind.min, IntKind.max, IntKind.signed, IntKind.bits, Bool.and_eq_true, decide_eq_true_eq, if_true] at wc
  have HWC := Lib.hid (which_any count 100 w (by omega) (by omega) (by omega) (by omega))
  have g0 := Int.emod_nonneg count (show (100 : Int) ≠ 0 by omega)
  have g1 := Int.emod_lt_of_pos count (show (0 : Int) < 100 by omega)
  generalize count % 100 = C at *
  have HPN := Lib.hid (pnew_any (1 + C) 1000000 w (by omega) (by omega) (by omega) (by omega))
  have HBN := Lib.hid (fun (wx : World) => bnew_any probeR (by decide) wx)
  have HL := Lib.hid hl
  have HX := Lib.hid hx
  have HR := Lib.hid hr
  unfold BreakS.v BreakS.cells at HBN
  rw [show probeR.res = ⟨#[97]⟩ from rfl, show probeR.gr = 2 from rfl, show probeR.cnt = 0 from rfl, show probeR.slow = 0 from rfl, show probeR.least = 1 from rfl, show probeR.win = 1000000 from rfl, show probeR.rec_ = 3000000 from rfl] at HBN
  clear hl hx hr hn hc wc
  go_enter Try.func3, Try.ntmps3
  go_wp2_with (fail)
  refine HWC.out.mono ?_
  rintro e wq ⟨rfl, hq⟩
  have hq := hq.symm
  subst hq
  go_wp2_with (fail)
  refine HPN.out.mono ?_
  rintro e w1 hmade
  obtain ⟨hmay, b, rfl, hb0, hpa, hb1⟩ := Or.resolve_right hmade (fun h => h.1 ⟨by omega, by omega, by omega, by omega⟩)
  have HPA := Lib.hid hpa
  have HB1 := Lib.hid hb1
  clear hmay hpa HPN HWC
  go_wp2_with (fail)
  refine (HBN.out _).mono ?_
  rintro e w2 hnew
  obtain ⟨q, p, m, rfl, h2, h3, h4, h5, h6⟩ := hnew.yes (by kernel_rfl)
  have HPB := Lib.hid (show PB w w2 b q _ new0 from by
    have hs := HB1.out.size
    have hl := HPA.out.lt
    exact ⟨⟨p, m, h2, by omega, by omega, fun e => by rcases e with e | e | e <;> omega⟩, HPA.out.below h3, ⟨by show 1 ≤ 1 + C; omega, by show 1 + C ≤ 1099511627776; omega, by dsimp only; omega, by dsimp only; omega, by dsimp only; omega, by dsimp only; omega, by dsimp only; omega, by dsimp only; omega⟩, rfl, HB1.out.trans (h3.mono hs), by omega, hb0⟩)
  have HST := Lib.hid (show Stand 0 (-1) 0 ⟨0, false, 1 + C, 1000000, 0⟩ new0 from ⟨by dsimp only; omega, by decide, Or.inl ⟨rfl, rfl, rfl⟩⟩)
  clear HBN hnew h2 h3 h4 h5 h6 HB1 HPA hb1 hb0 g0 g1
  go_wp2_with (fail)
  go_loopw [9, 10, 11, 12] (fun av uv pv iv wr => ∃ (j : Nat) (at_ un pr : Int) (ps : PaceS) (s : BrS), j ≤ len ∧ j ≤ 100 ∧ iv = .int .i64 j ∧ av = .int .i64 at_ ∧ uv = .int .i64 un ∧ pv = .int .i64 pr ∧ 0 ≤ at_ ∧ at_ ≤ j * 3000000 ∧ Hid (PB w wr b q ps s) ∧ Hid (Stand at_ un pr ps s)) (fun _ _ _ i _ => len - (intOf i).toNat)
  case atStart => exact ⟨0, 0, -1, 0, _, _, Nat.zero_le _, Nat.zero_le _, rfl, rfl, rfl, rfl, Int.le_refl _, by simp, HPB, HST⟩
  case round =>
    rename World => wy
    clear HPB HST
    obtain ⟨j, at_, un, pr, ps, s, hj, hj1, rfl, rfl, rfl, rfl, a0, a1, HB, HS⟩ := hrel
    by_cases hlt : j < len ∧ j < 100
    · obtain ⟨hlt, hlt2⟩ := hlt
      have j0 : (0 : Int) ≤ j := by omega
      have j1 : (j : Int) < len := by omega
      have j2 : (j : Int) < 100 := by omega
      obtain ⟨x, hx⟩ : ∃ x, xs[j]? = some x := ⟨_, List.getElem?_eq_getElem (by rw [HL.out]; exact hlt)⟩
      have hxb := HX.out x (List.mem_of_getElem? hx)
      obtain ⟨b0, off, hac, hbl, hxc⟩ := HR.out.getP hx
      subst hac
      have d0 := (HB.out.bel.cell (p := ⟨b0, off + j, none⟩) hbl).trans hxc
      have HWI := Lib.hid (which_any x 2000000 wy (by omega) (by omega) (by omega) (by omega))
      have g0 := Int.emod_nonneg x (show (2000000 : Int) ≠ 0 by omega)
      have g1 := Int.emod_lt_of_pos x (show (0 : Int) < 2000000 by omega)
      generalize x % 2000000 = T at *
      have HGO := Lib.hid (pb_go HB.out (at_ + T) (by omega) (by omega))
      obtain ⟨q1, q2, q3, q4⟩ := ask_ok HB.out.ok (show 0 ≤ at_ + T by omega) (by omega) (by have := HS.out.noted; omega) HB.out.qu
      rw [q1] at HGO
      have HNT := Lib.hid q4
      generalize gone ps (at_ + T) 1 ps.count = ps2 at *
      generalize askW ps (at_ + T) 1 ps.count = WT at *
      have hla := HS.out.la
      have hst := HS.out.st
      clear hx hxb hxc q1 q4 HB HS
      cases hB : askB ps (at_ + T) 1 ps.count with
      | false =>
        rw [hB] at HGO
        clear hB
        go_wp2_with (fail)
        refine HWI.out.mono ?_
        rintro e wq ⟨rfl, hq⟩
        have hq := hq.symm
        subst hq
        go_wp2_with (fail)
        refine HGO.out.mono ?_
        rintro e w3 ⟨rfl, h3⟩
        have H3 := Lib.hid h3
        clear h3 HGO HWI d0
        go_wp2_with (fail)
        exact ⟨⟨j + 1, at_ + T, un, pr, ps2, s, by omega, by omega, by go_num, rfl, rfl, rfl, by omega, by omega, H3, Lib.hid ⟨by rw [HNT.out]; omega, by omega, hst⟩⟩, by first | (simp [intOf]; done) | (simp [intOf]; omega)⟩
      | true =>
        rw [hB] at HGO
        clear hB
        obtain ⟨A2, hA2⟩ : ∃ A2, at_ + T + WT = A2 := ⟨_, rfl⟩
        have k0 : 0 ≤ A2 := by omega
        have k1 : A2 ≤ 1152921504606846976 := by omega
        have hlk : lookW s.la A2 = 0 := by unfold lookW; rw [if_neg (by omega), if_neg (by omega)]
        have k2 : A2 ≤ ((j + 1 : Nat) : Int) * 3000000 := by omega
        have k3 : at_ + T ≤ A2 := by omega
        have HLK := Lib.hid hlk
        have hnl : ps2.noted ≤ A2 := by rw [HNT.out]; exact k3
        have HNL := Lib.hid hnl
        have HEN := Lib.hid (fun (wx : World) (h : PB w wx b q ps2 s) => pb_enter h A2)
        rw [hlk] at HEN
        clear hlk hnl
        rcases hst with ⟨rfl, rfl, rfl⟩ | ⟨u0, rfl, s1, s2⟩ | ⟨u0, rfl, s1⟩
        · obtain ⟨x1, x2, x3⟩ := enterC HLK.out rfl
          rw [x1, x2] at HEN
          obtain ⟨y1, y2, y3, y4⟩ := done_open k0 k1
          have HDN := Lib.hid (fun (wx : World) (h : PB w wx b q ps2 (enterS new0 A2)) => pb_done h A2 5 true false)
          rw [y1] at HDN
          have HZ := Lib.hid (show Stand A2 (A2 + 3000000) 0 ps2 (bdoneS probeR (enterS new0 A2) A2 5 true false) from ⟨HNL.out, by rw [y4]; omega, Or.inr (Or.inl ⟨by omega, rfl, y2, y3⟩)⟩)
          have HY2 := Lib.hid y2
          clear x1 x2 x3 y1 y2 y3 y4
          go_wp2_with (fail)
          refine HWI.out.mono ?_
          rintro e wq ⟨rfl, hq⟩
          have hq := hq.symm
          subst hq
          go_wp2_with (fail)
          refine HGO.out.mono ?_
          rintro e w3 ⟨rfl, h3⟩
          have H3 := Lib.hid h3
          clear h3 HGO HWI d0
          go_wp2_with (fail)
          refine (HEN.out _ H3.out).mono ?_
          rintro e w4 ⟨rfl, h4⟩
          have H4 := Lib.hid h4
          clear h4 HEN
          go_wp2_with (fail)
          refine (HDN.out _ H4.out).mono ?_
          rintro e w5 ⟨rfl, h5⟩
          have H5 := Lib.hid h5
          have HSS := Lib.hid (pb_state h5)
          rw [HY2.out] at HSS
          clear h5 HDN
          go_wp2_with (fail)
          refine HSS.out.mono ?_
          rintro e wq ⟨rfl, hq⟩
          have hq := hq.symm
          subst hq
          go_wp2_with (fail)
          exact ⟨⟨j + 1, A2, A2 + 3000000, 0, ps2, _, by omega, by omega, by go_num, rfl, rfl, rfl, k0, k2, H5, HZ⟩, by first | (simp [intOf]; done) | (simp [intOf]; omega)⟩
        · by_cases hu : un ≤ A2
          · obtain ⟨x1, x2, x3⟩ := enterOa HLK.out s1 (by rw [s2]; exact hu)
            rw [x1, x2] at HEN
            have HZ := Lib.hid (show Stand A2 un 1 ps2 (enterS s A2) from ⟨HNL.out, by rw [enterLa HLK.out]; omega, Or.inr (Or.inr ⟨u0, rfl, x3⟩)⟩)
            clear x1 x2 x3 s1 s2
            go_wp2_with (fail)
            refine HWI.out.mono ?_
            rintro e wq ⟨rfl, hq⟩
            have hq := hq.symm
            subst hq
            go_wp2_with (fail)
            refine HGO.out.mono ?_
            rintro e w3 ⟨rfl, h3⟩
            have H3 := Lib.hid h3
            clear h3 HGO HWI d0
            go_wp2_with (fail)
            refine (HEN.out _ H3.out).mono ?_
            rintro e w4 ⟨rfl, h4⟩
            have H4 := Lib.hid h4
            clear h4 HEN
            go_wp2_with (fail)
            exact ⟨⟨j + 1, A2, un, 1, ps2, _, by omega, by omega, by go_num, rfl, rfl, rfl, k0, k2, H4, HZ⟩, by first | (simp [intOf]; done) | (simp [intOf]; omega)⟩
          · obtain ⟨x1, x2, x3, x4⟩ := enterOb HLK.out s1 (by rw [s2]; exact hu)
            rw [x1, x2] at HEN
            have HZ := Lib.hid (show Stand A2 un 0 ps2 (enterS s A2) from ⟨HNL.out, by rw [enterLa HLK.out]; omega, Or.inr (Or.inl ⟨u0, rfl, x3, x4.trans s2⟩)⟩)
            clear x1 x2 x3 x4 s1 s2
            go_wp2_with (fail)
            refine HWI.out.mono ?_
            rintro e wq ⟨rfl, hq⟩
            have hq := hq.symm
            subst hq
            go_wp2_with (fail)
            refine HGO.out.mono ?_
            rintro e w3 ⟨rfl, h3⟩
            have H3 := Lib.hid h3
            clear h3 HGO HWI d0
            go_wp2_with (fail)
            refine (HEN.out _ H3.out).mono ?_
            rintro e w4 ⟨rfl, h4⟩
            have H4 := Lib.hid h4
            clear h4 HEN
            go_wp2_with (fail)
            exact ⟨⟨j + 1, A2, un, 0, ps2, _, by omega, by omega, by go_num, rfl, rfl, rfl, k0, k2, H4, HZ⟩, by first | (simp [intOf]; done) | (simp [intOf]; omega)⟩
        · obtain ⟨x1, x2, x3⟩ := enterH HLK.out s1
          rw [x1, x2] at HEN
          have HZ := Lib.hid (show Stand A2 un 1 ps2 (enterS s A2) from ⟨HNL.out, by rw [enterLa HLK.out]; omega, Or.inr (Or.inr ⟨u0, rfl, x3⟩)⟩)
          clear x1 x2 x3 s1
          by_cases hu : un ≤ A2
          · go_wp2_with (fail)
            refine HWI.out.mono ?_
            rintro e wq ⟨rfl, hq⟩
            have hq := hq.symm
            subst hq
            go_wp2_with (fail)
            refine HGO.out.mono ?_
            rintro e w3 ⟨rfl, h3⟩
            have H3 := Lib.hid h3
            clear h3 HGO HWI d0
            go_wp2_with (fail)
            refine (HEN.out _ H3.out).mono ?_
            rintro e w4 ⟨rfl, h4⟩
            have H4 := Lib.hid h4
            clear h4 HEN
            go_wp2_with (fail)
            exact ⟨⟨j + 1, A2, un, 1, ps2, _, by omega, by omega, by go_num, rfl, rfl, rfl, k0, k2, H4, HZ⟩, by first | (simp [intOf]; done) | (simp [intOf]; omega)⟩
          · go_wp2_with (fail)
            refine HWI.out.mono ?_
            rintro e wq ⟨rfl, hq⟩
            have hq := hq.symm
            subst hq
            go_wp2_with (fail)
            refine HGO.out.mono ?_
            rintro e w3 ⟨rfl, h3⟩
            have H3 := Lib.hid h3
            clear h3 HGO HWI d0
            go_wp2_with (fail)
            refine (HEN.out _ H3.out).mono ?_
            rintro e w4 ⟨rfl, h4⟩
            have H4 := Lib.hid h4
            clear h4 HEN
            go_wp2_with (fail)
            exact ⟨⟨j + 1, A2, un, 1, ps2, _, by omega, by omega, by go_num, rfl, rfl, rfl, k0, k2, H4, HZ⟩, by first | (simp [intOf]; done) | (simp [intOf]; omega)⟩
    · have HSS := Lib.hid (pb_state HB.out)
      have hj9 : ¬ (j : Int) < len ∨ ((j : Int) < len ∧ ¬ (j : Int) < 100) := by omega
      have hst : (un = -1 ∧ s.st = 1) ∨ (0 ≤ un ∧ s.st = 2) ∨ (0 ≤ un ∧ s.st = 3) := by
        rcases HS.out.st with ⟨h1, _, h2⟩ | ⟨h1, _, h2, _⟩ | ⟨h1, _, h2⟩
        · exact Or.inl ⟨h1, by rw [h2]; rfl⟩
        · exact Or.inr (Or.inl ⟨h1, h2⟩)
        · exact Or.inr (Or.inr ⟨h1, h2⟩)
      rcases hst with ⟨rfl, h2⟩ | ⟨h1, h2⟩ | ⟨h1, h2⟩
      all_goals
        rw [h2] at HSS
        clear h2 hlt
        rcases hj9 with j1 | ⟨j1, j2⟩
        all_goals
          go_wp2_with (fail)
          refine HSS.out.mono ?_
          rintro e wq ⟨rfl, hq⟩
          have hq := hq.symm
          subst hq
          go_wp2_with (fail)
          go_ret
          exact ⟨by first | rfl | (show Ending.returned (Value.bool (!decide (un < 0))) = _; rw [decide_eq_false (show ¬ un < 0 by omega)]; rfl), HB.out.bel⟩
end Go.Proofs.Yteghiappanpogaa
