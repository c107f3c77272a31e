/- spillwayref16.Systems. -/
import Derived.Test.YtnobfmlfhaaghaaGuL
namespace Go.Proofs.Ytnobfmlfhaaghaa
open Go.RowKit
set_option linter.unusedVariables false
set_option linter.unusedSimpArgs false

set_option maxHeartbeats 12800000 in
set_option maxRecDepth 100000 in
theorem rsystems_any {w : World} (a an : Option Addr) (ln cap lnn capn : Nat) (rs : List SysR) (ns : List NowS) (n : Int) (hl : rs.length = ln) (hm : ns.length = lnn) (few : ln ≤ 9223372036854775807) (fewn : lnn ≤ 9223372036854775807) (hr : RowsAt w a 5 (rs.map SysR.cs)) (hs : RowsAt w an 7 (ns.map NowS.cs)) :
    Calls Try.prog 25 #[.slice a ln cap, .int .i64 n, .slice an lnn capn] w fun e w' => e = .returned (tri3 (sysRes rs n ns)) ∧ Below w.heap.size w w' := by
  have HSR : Hid (∀ (x : SysR) wx, Calls Try.prog 53 #[.agg #[.int .i64 x.q, .int .i64 x.t, .int .i64 x.r, .int .i64 x.l, .int .i64 x.c]] wx fun e w' => e = .returned (.int .i64 (sysE x.s)) ∧ Below wx.heap.size wx w') := fun x wx => r7sysg_any x.s wx
  have HRT : Hid (∀ (s : NowS) wx, Calls Try.prog 54 #[.agg #[.int .i64 s.qps, .int .i64 s.thr, .int .i64 s.rt, .int .i64 s.load, .int .i64 s.cpu, .int .i64 s.most, .int .i64 s.least]] wx fun e w' => e = .returned (.bool (nowOk s)) ∧ Below wx.heap.size wx w') := fun s wx => rmay_any s wx
  have HSS : Hid (∀ (x : SysR) (s : NowS) wx, Calls Try.prog 27 #[.agg #[.int .i64 x.q, .int .i64 x.t, .int .i64 x.r, .int .i64 x.l, .int .i64 x.c], .int .i64 n, .agg #[.int .i64 s.qps, .int .i64 s.thr, .int .i64 s.rt, .int .i64 s.load, .int .i64 s.cpu, .int .i64 s.most, .int .i64 s.least]] wx fun e w' => e = .returned (.bool (passB x.s n s)) ∧ Below wx.heap.size wx w') := fun x s wx => rsystem_any x.s n s wx
  have HR := Lib.hid hr
  have HSN := Lib.hid hs
  have HL := Lib.hid hl
  have HM := Lib.hid hm
  clear hr hs hl hm
  by_cases hone : lnn = 1
  · obtain ⟨s, rfl⟩ : ∃ s, ns = [s] := List.length_eq_one_iff.1 (HM.out.trans hone)
    obtain ⟨nb, no, rfl, hnl, c0, c1, c2, c3, c4, c5, c6⟩ := now_get HSN.out (k := 0) rfl
    rw [Nat.zero_mul, Nat.add_zero] at c0 c1 c2 c3 c4 c5 c6
    subst hone
    have HBX : Hid (∀ wx, Below w.heap.size w wx → (wx.cell? ⟨nb, no, none⟩ = some (.int .i64 s.qps) ∧ wx.cell? ⟨nb, no + 1, none⟩ = some (.int .i64 s.thr) ∧ wx.cell? ⟨nb, no + 2, none⟩ = some (.int .i64 s.rt) ∧ wx.cell? ⟨nb, no + 3, none⟩ = some (.int .i64 s.load) ∧ wx.cell? ⟨nb, no + 4, none⟩ = some (.int .i64 s.cpu) ∧ wx.cell? ⟨nb, no + 5, none⟩ = some (.int .i64 s.most) ∧ wx.cell? ⟨nb, no + 6, none⟩ = some (.int .i64 s.least))) := fun wx hbw =>
      ⟨(hbw.cell (p := ⟨nb, no, none⟩) hnl).trans c0, (hbw.cell (p := ⟨nb, no + 1, none⟩) hnl).trans c1, (hbw.cell (p := ⟨nb, no + 2, none⟩) hnl).trans c2, (hbw.cell (p := ⟨nb, no + 3, none⟩) hnl).trans c3, (hbw.cell (p := ⟨nb, no + 4, none⟩) hnl).trans c4, (hbw.cell (p := ⟨nb, no + 5, none⟩) hnl).trans c5, (hbw.cell (p := ⟨nb, no + 6, none⟩) hnl).trans c6⟩
    clear c0 c1 c2 c3 c4 c5 c6
    go_enter Try.func25, Try.ntmps25
    go_wp2_with (fail)
    go_loopw [9, 10] (fun i _ wr => ∃ (k : Nat), k ≤ ln ∧ i = .int .i64 k ∧ Hid (∀ x, x ∈ rs.take k → sysE x.s = 0) ∧ Hid (Below w.heap.size w wr)) (fun i _ _ => ln - (intOf i).toNat)
    case atStart => exact ⟨0, Nat.zero_le _, rfl, Lib.hid (by simp), Lib.hid (Below.refl _ _)⟩
    case round =>
      rename World => wy
      obtain ⟨k, hk, rfl, HP, HBY⟩ := hrel
      have hbz := HBY.out.size
      by_cases hlt : k < ln
      · have hkl : k < rs.length := by rw [HL.out]; exact hlt
        obtain ⟨gb, off, rfl, hgb, d0, d1, d2, d3, d4⟩ := sys_get HR.out (List.getElem?_eq_getElem hkl)
        have k0 : (0 : Int) ≤ k := by omega
        have k1 : (k : Int) < ln := by omega
        have hbw := HBY.out
        have HAN := Lib.hid (fun h0 => all_next (rs := rs) (k := k) HP.out (List.getElem?_eq_getElem hkl) h0)
        have HBAD := Lib.hid (fun h0 => sysRes_bad (n := n) (s := s) (List.getElem_mem hkl) h0)
        have d0 := (hbw.cell (p := ⟨gb, off + k * 5, none⟩) hgb).trans d0
        have d1 := (hbw.cell (p := ⟨gb, off + k * 5 + 1, none⟩) hgb).trans d1
        have d2 := (hbw.cell (p := ⟨gb, off + k * 5 + 2, none⟩) hgb).trans d2
        have d3 := (hbw.cell (p := ⟨gb, off + k * 5 + 3, none⟩) hgb).trans d3
        have d4 := (hbw.cell (p := ⟨gb, off + k * 5 + 4, none⟩) hgb).trans d4
        generalize rs[k]'hkl = X at *
        obtain ⟨xq, xt, xr, xl, xc⟩ := X
        dsimp only at *
        have HX := Lib.hid (HSR.out ⟨xq, xt, xr, xl, xc⟩)
        dsimp only at HX
        clear hbw
        by_cases he : sysE (SysR.s ⟨xq, xt, xr, xl, xc⟩) = 0
        · rw [he] at HX
          have HE := Lib.hid he
          clear he HBAD
          go_wp2_with (fail)
          refine (HX.out _).mono ?_
          rintro e wb ⟨rfl, hbb⟩
          have HBB := Lib.hid (HBY.out.trans (hbb.mono HBY.out.size))
          clear hbb
          go_wp2_with (fail)
          exact ⟨⟨k + 1, by omega, by go_num, Lib.hid (HAN.out HE.out), HBB⟩, by first | (simp [intOf]; done) | (simp [intOf]; omega)⟩
        · rw [sysE_33 he] at HX
          have HRES := Lib.hid (HBAD.out he)
          clear HBAD HAN he
          go_wp2_with (fail)
          refine (HX.out _).mono ?_
          rintro e wb ⟨rfl, hbb⟩
          have HBB := Lib.hid (HBY.out.trans (hbb.mono HBY.out.size))
          clear hbb
          go_wp2_with (fail)
          go_ret3
          exact ⟨by rw [HRES.out]; rfl, HBB.out⟩
      · have k1 : ¬ (k : Int) < ln := by omega
        have HALL : Hid (∀ x ∈ rs, sysE x.s = 0) := Lib.hid (fun x hx => HP.out x (by rw [List.take_of_length_le (by rw [HL.out]; omega)]; exact hx))
        obtain ⟨e0, e1, e2, e3, e4, e5, e6⟩ := HBX.out _ HBY.out
        clear HP
        by_cases hn0 : n < 1
        · have HRES := Lib.hid (sysRes_form (n := n) (s := s) HALL.out (by unfold nOk; rw [decide_eq_false (show ¬ 1 ≤ n by omega)]; rfl))
          go_wp2_with (fail)
          go_ret3
          exact ⟨by rw [HRES.out]; rfl, HBY.out⟩
        · by_cases hn1 : 1099511627776 < n
          · have HRES := Lib.hid (sysRes_form (n := n) (s := s) HALL.out (by unfold nOk; rw [decide_eq_false (show ¬ n ≤ 1099511627776 by omega), Bool.and_false, Bool.false_and]))
            go_wp2_with (fail)
            go_ret3
            exact ⟨by rw [HRES.out]; rfl, HBY.out⟩
          · have HNK : Hid (nOk n = true) := Lib.hid (by unfold nOk; rw [decide_eq_true (show 1 ≤ n by omega), decide_eq_true (show n ≤ 1099511627776 by omega)]; rfl)
            have HX := Lib.hid (HRT.out s)
            cases hno : nowOk s with
            | false =>
              rw [hno] at HX
              have HRES := Lib.hid (sysRes_form (n := n) (s := s) HALL.out (by rw [hno, Bool.and_false]))
              clear hno
              go_wp2_with (fail)
              refine (HX.out _).mono ?_
              rintro e wb ⟨rfl, hbb⟩
              have HBB := Lib.hid (HBY.out.trans (hbb.mono HBY.out.size))
              clear hbb
              go_wp2_with (fail)
              go_ret3
              exact ⟨by rw [HRES.out]; rfl, HBB.out⟩
            | true =>
              rw [hno] at HX
              have HRES := Lib.hid (sysRes_ok (n := n) (s := s) HALL.out (by rw [hno, HNK.out]; rfl))
              clear hno
              go_wp2_with (fail)
              refine (HX.out _).mono ?_
              rintro e wb ⟨rfl, hbb⟩
              have HBB := Lib.hid (HBY.out.trans (hbb.mono HBY.out.size))
              clear hbb e0 e1 e2 e3 e4 e5 e6 hbz HX HSR HRT
              go_wp2_with (fail)
              go_loopw [11] (fun i wr => ∃ (k : Nat), k ≤ ln ∧ i = .int .i64 k ∧ Hid (∀ x, x ∈ rs.take k → (!passB x.s n s) = false) ∧ Hid (Below w.heap.size w wr)) (fun i _ => ln - (intOf i).toNat)
              case atStart => exact ⟨0, Nat.zero_le _, rfl, Lib.hid (by simp), HBB⟩
              case round =>
                rename World => wz
                obtain ⟨j, hj, rfl, HQ, HBZ⟩ := hrel
                by_cases hjt : j < ln
                · have hjl : j < rs.length := by rw [HL.out]; exact hjt
                  obtain ⟨gb, off, rfl, hgb, d0, d1, d2, d3, d4⟩ := sys_get HR.out (List.getElem?_eq_getElem hjl)
                  have j0 : (0 : Int) ≤ j := by omega
                  have j1 : (j : Int) < ln := by omega
                  have HTK := Lib.hid (show rs.take (j + 1) = rs.take j ++ [rs[j]'hjl] from List.take_succ_eq_append_getElem hjl)
                  have HIX := Lib.hid (fun hp => idxG_some hjl (p := fun x => !passB x.s n s) hp (fun i hi => HQ.out _ (by rw [List.mem_take_iff_getElem]; exact ⟨i, by omega, rfl⟩)))
                  generalize rs[j]'hjl = X at *
                  obtain ⟨xq, xt, xr, xl, xc⟩ := X
                  dsimp only at *
                  have HX := Lib.hid (HSS.out ⟨xq, xt, xr, xl, xc⟩ s)
                  dsimp only at HX
                  have SB : Hid (∀ wx, Below w.heap.size w wx → (fun wx => (wx.cell? ⟨gb, off + j * 5, none⟩ = some (.int .i64 xq) ∧ wx.cell? ⟨gb, off + j * 5 + 1, none⟩ = some (.int .i64 xt) ∧ wx.cell? ⟨gb, off + j * 5 + 2, none⟩ = some (.int .i64 xr) ∧ wx.cell? ⟨gb, off + j * 5 + 3, none⟩ = some (.int .i64 xl) ∧ wx.cell? ⟨gb, off + j * 5 + 4, none⟩ = some (.int .i64 xc)) ∧ (wx.cell? ⟨nb, no, none⟩ = some (.int .i64 s.qps) ∧ wx.cell? ⟨nb, no + 1, none⟩ = some (.int .i64 s.thr) ∧ wx.cell? ⟨nb, no + 2, none⟩ = some (.int .i64 s.rt) ∧ wx.cell? ⟨nb, no + 3, none⟩ = some (.int .i64 s.load) ∧ wx.cell? ⟨nb, no + 4, none⟩ = some (.int .i64 s.cpu) ∧ wx.cell? ⟨nb, no + 5, none⟩ = some (.int .i64 s.most) ∧ wx.cell? ⟨nb, no + 6, none⟩ = some (.int .i64 s.least)) ∧ Below w.heap.size w wx) wx) := fun wx hb => ⟨⟨(hb.cell (p := ⟨gb, off + j * 5, none⟩) hgb).trans d0, (hb.cell (p := ⟨gb, off + j * 5 + 1, none⟩) hgb).trans d1, (hb.cell (p := ⟨gb, off + j * 5 + 2, none⟩) hgb).trans d2, (hb.cell (p := ⟨gb, off + j * 5 + 3, none⟩) hgb).trans d3, (hb.cell (p := ⟨gb, off + j * 5 + 4, none⟩) hgb).trans d4⟩, HBX.out wx hb, hb⟩
                  clear d0 d1 d2 d3 d4
                  cases hpx : passB (SysR.s ⟨xq, xt, xr, xl, xc⟩) n s with
                  | true =>
                    rw [hpx] at HX
                    have HPX := Lib.hid hpx
                    clear HIX hpx
                    go_wp2_with (fail)
                    refine wp_region_noPanic ?_
                    refine wp_region_held_drew (S := (fun wx => (wx.cell? ⟨gb, off + j * 5, none⟩ = some (.int .i64 xq) ∧ wx.cell? ⟨gb, off + j * 5 + 1, none⟩ = some (.int .i64 xt) ∧ wx.cell? ⟨gb, off + j * 5 + 2, none⟩ = some (.int .i64 xr) ∧ wx.cell? ⟨gb, off + j * 5 + 3, none⟩ = some (.int .i64 xl) ∧ wx.cell? ⟨gb, off + j * 5 + 4, none⟩ = some (.int .i64 xc)) ∧ (wx.cell? ⟨nb, no, none⟩ = some (.int .i64 s.qps) ∧ wx.cell? ⟨nb, no + 1, none⟩ = some (.int .i64 s.thr) ∧ wx.cell? ⟨nb, no + 2, none⟩ = some (.int .i64 s.rt) ∧ wx.cell? ⟨nb, no + 3, none⟩ = some (.int .i64 s.load) ∧ wx.cell? ⟨nb, no + 4, none⟩ = some (.int .i64 s.cpu) ∧ wx.cell? ⟨nb, no + 5, none⟩ = some (.int .i64 s.most) ∧ wx.cell? ⟨nb, no + 6, none⟩ = some (.int .i64 s.least)) ∧ Below w.heap.size w wx)) (by kernel_rfl) ?_ (fun hHeld => ?_)
                    · exact SB.out _ HBZ.out.drew
                    refine wpAnyH_take (i := 0) (v := ?_) rfl (by kernel_rfl) (by kernel_rfl) (by kernel_rfl) (fun _ _ _ h => h) (Or.inl ⟨by rfl, ?hy⟩) (by assumption) ?_
                    case hy => intro w hSw; (try dsimp only at hSw); go_simp; try with_reducible rfl
                    try simp only [Act.put, List.getElem_toArray, List.getElem_cons_succ, List.getElem_cons_zero, List.setIfInBounds_toArray, List.set_cons_zero, List.set_cons_succ]
                    refine wpAnyH_take (i := 1) (v := ?_) rfl (by kernel_rfl) (by kernel_rfl) (by kernel_rfl) (fun _ _ _ h => h) (Or.inl ⟨by rfl, ?hy⟩) (by assumption) ?_
                    case hy => intro w hSw; (try dsimp only at hSw); go_simp; try with_reducible rfl
                    try simp only [Act.put, List.getElem_toArray, List.getElem_cons_succ, List.getElem_cons_zero, List.setIfInBounds_toArray, List.set_cons_zero, List.set_cons_succ]
                    refine wpAnyH_take (i := 2) (v := ?_) rfl (by kernel_rfl) (by kernel_rfl) (by kernel_rfl) (fun _ _ _ h => h) (Or.inl ⟨by rfl, ?hy⟩) (by assumption) ?_
                    case hy => intro w hSw; (try dsimp only at hSw); go_simp; try with_reducible rfl
                    try simp only [Act.put, List.getElem_toArray, List.getElem_cons_succ, List.getElem_cons_zero, List.setIfInBounds_toArray, List.set_cons_zero, List.set_cons_succ]
                    refine wpAnyH_take (i := 3) (v := ?_) rfl (by kernel_rfl) (by kernel_rfl) (by kernel_rfl) (fun _ _ _ h => h) (Or.inl ⟨by rfl, ?hy⟩) (by assumption) ?_
                    case hy => intro w hSw; (try dsimp only at hSw); go_simp; try with_reducible rfl
                    try simp only [Act.put, List.getElem_toArray, List.getElem_cons_succ, List.getElem_cons_zero, List.setIfInBounds_toArray, List.set_cons_zero, List.set_cons_succ]
                    refine wpAnyH_take (i := 4) (v := ?_) rfl (by kernel_rfl) (by kernel_rfl) (by kernel_rfl) (fun _ _ _ h => h) (Or.inl ⟨by rfl, ?hy⟩) (by assumption) ?_
                    case hy => intro w hSw; (try dsimp only at hSw); go_simp; try with_reducible rfl
                    try simp only [Act.put, List.getElem_toArray, List.getElem_cons_succ, List.getElem_cons_zero, List.setIfInBounds_toArray, List.set_cons_zero, List.set_cons_succ]
                    refine wpAnyH_take (i := 5) (v := ?_) rfl (by kernel_rfl) (by kernel_rfl) (by kernel_rfl) (fun _ _ _ h => h) (Or.inl ⟨by rfl, ?hy⟩) (by assumption) ?_
                    case hy => intro w hSw; (try dsimp only at hSw); go_simp; try with_reducible rfl
                    try simp only [Act.put, List.getElem_toArray, List.getElem_cons_succ, List.getElem_cons_zero, List.setIfInBounds_toArray, List.set_cons_zero, List.set_cons_succ]
                    refine wpAnyH_take (i := 6) (v := ?_) rfl (by kernel_rfl) (by kernel_rfl) (by kernel_rfl) (fun _ _ _ h => h) (Or.inl ⟨by rfl, ?hy⟩) (by assumption) ?_
                    case hy => intro w hSw; (try dsimp only at hSw); go_simp; try with_reducible rfl
                    try simp only [Act.put, List.getElem_toArray, List.getElem_cons_succ, List.getElem_cons_zero, List.setIfInBounds_toArray, List.set_cons_zero, List.set_cons_succ]
                    refine wpAnyH_take (i := 7) (v := ?_) rfl (by kernel_rfl) (by kernel_rfl) (by kernel_rfl) (fun _ _ _ h => h) (Or.inl ⟨by rfl, ?hy⟩) (by assumption) ?_
                    case hy => intro w hSw; (try dsimp only at hSw); go_simp; try with_reducible rfl
                    try simp only [Act.put, List.getElem_toArray, List.getElem_cons_succ, List.getElem_cons_zero, List.setIfInBounds_toArray, List.set_cons_zero, List.set_cons_succ]
                    refine wpAnyH_ready (rs := [8]) (by kernel_rfl) (by simp) (AllReadyH.cons rfl (fun K hK => ?_) AllReadyH.nil)
                    go_simp
                    go_at_call 27; refine (HX.out _).mono ?_; rintro e wq ⟨rfl, hbq⟩
                    try (go_wp2_with fail)
                    refine hK.out _ _ ?_ (fun hHeld => ?_)
                    · exact SB.out _ (hHeld.2.2.trans (hbq.mono hHeld.2.2.size))
                    clear hK K
                    try simp only [Act.put, List.getElem_toArray, List.getElem_cons_succ, List.getElem_cons_zero, List.setIfInBounds_toArray, List.set_cons_zero, List.set_cons_succ]
                    refine wpAnyH_take (i := 9) (v := ?_) rfl (by kernel_rfl) (by kernel_rfl) (by kernel_rfl) (fun _ _ _ h => h) (Or.inl ⟨by rfl, ?hy⟩) (by assumption) ?_
                    case hy => intro w hSw; (try dsimp only at hSw); go_simp; try with_reducible rfl
                    try simp only [Act.put, List.getElem_toArray, List.getElem_cons_succ, List.getElem_cons_zero, List.setIfInBounds_toArray, List.set_cons_zero, List.set_cons_succ]
                    refine wpAnyH_done (by kernel_rfl) ?_ _
                    refine NoPanic.normal ?_
                    go_wp2_with (fail)
                    exact ⟨⟨j + 1, by omega, by go_num, Lib.hid (fun x hx => by
                      rw [HTK.out, List.mem_append] at hx
                      rcases hx with hx | hx
                      · exact HQ.out x hx
                      · obtain rfl := List.mem_singleton.1 hx
                        rw [HPX.out]; rfl), Lib.hid hHeld.2.2⟩, by first | (simp [intOf]; done) | (simp [intOf]; omega)⟩
                  | false =>
                    rw [hpx] at HX
                    have hix := Lib.hid (HIX.out (by rw [hpx]; rfl))
                    have HRE := Lib.hid (HRES.out.trans (if_neg (by rw [hix.out]; omega)))
                    clear HIX hpx
                    go_wp2_with (fail)
                    refine wp_region_noPanic ?_
                    refine wp_region_held_drew (S := (fun wx => (wx.cell? ⟨gb, off + j * 5, none⟩ = some (.int .i64 xq) ∧ wx.cell? ⟨gb, off + j * 5 + 1, none⟩ = some (.int .i64 xt) ∧ wx.cell? ⟨gb, off + j * 5 + 2, none⟩ = some (.int .i64 xr) ∧ wx.cell? ⟨gb, off + j * 5 + 3, none⟩ = some (.int .i64 xl) ∧ wx.cell? ⟨gb, off + j * 5 + 4, none⟩ = some (.int .i64 xc)) ∧ (wx.cell? ⟨nb, no, none⟩ = some (.int .i64 s.qps) ∧ wx.cell? ⟨nb, no + 1, none⟩ = some (.int .i64 s.thr) ∧ wx.cell? ⟨nb, no + 2, none⟩ = some (.int .i64 s.rt) ∧ wx.cell? ⟨nb, no + 3, none⟩ = some (.int .i64 s.load) ∧ wx.cell? ⟨nb, no + 4, none⟩ = some (.int .i64 s.cpu) ∧ wx.cell? ⟨nb, no + 5, none⟩ = some (.int .i64 s.most) ∧ wx.cell? ⟨nb, no + 6, none⟩ = some (.int .i64 s.least)) ∧ Below w.heap.size w wx)) (by kernel_rfl) ?_ (fun hHeld => ?_)
                    · exact SB.out _ HBZ.out.drew
                    refine wpAnyH_take (i := 0) (v := ?_) rfl (by kernel_rfl) (by kernel_rfl) (by kernel_rfl) (fun _ _ _ h => h) (Or.inl ⟨by rfl, ?hy⟩) (by assumption) ?_
                    case hy => intro w hSw; (try dsimp only at hSw); go_simp; try with_reducible rfl
                    try simp only [Act.put, List.getElem_toArray, List.getElem_cons_succ, List.getElem_cons_zero, List.setIfInBounds_toArray, List.set_cons_zero, List.set_cons_succ]
                    refine wpAnyH_take (i := 1) (v := ?_) rfl (by kernel_rfl) (by kernel_rfl) (by kernel_rfl) (fun _ _ _ h => h) (Or.inl ⟨by rfl, ?hy⟩) (by assumption) ?_
                    case hy => intro w hSw; (try dsimp only at hSw); go_simp; try with_reducible rfl
                    try simp only [Act.put, List.getElem_toArray, List.getElem_cons_succ, List.getElem_cons_zero, List.setIfInBounds_toArray, List.set_cons_zero, List.set_cons_succ]
                    refine wpAnyH_take (i := 2) (v := ?_) rfl (by kernel_rfl) (by kernel_rfl) (by kernel_rfl) (fun _ _ _ h => h) (Or.inl ⟨by rfl, ?hy⟩) (by assumption) ?_
                    case hy => intro w hSw; (try dsimp only at hSw); go_simp; try with_reducible rfl
                    try simp only [Act.put, List.getElem_toArray, List.getElem_cons_succ, List.getElem_cons_zero, List.setIfInBounds_toArray, List.set_cons_zero, List.set_cons_succ]
                    refine wpAnyH_take (i := 3) (v := ?_) rfl (by kernel_rfl) (by kernel_rfl) (by kernel_rfl) (fun _ _ _ h => h) (Or.inl ⟨by rfl, ?hy⟩) (by assumption) ?_
                    case hy => intro w hSw; (try dsimp only at hSw); go_simp; try with_reducible rfl
                    try simp only [Act.put, List.getElem_toArray, List.getElem_cons_succ, List.getElem_cons_zero, List.setIfInBounds_toArray, List.set_cons_zero, List.set_cons_succ]
                    refine wpAnyH_take (i := 4) (v := ?_) rfl (by kernel_rfl) (by kernel_rfl) (by kernel_rfl) (fun _ _ _ h => h) (Or.inl ⟨by rfl, ?hy⟩) (by assumption) ?_
                    case hy => intro w hSw; (try dsimp only at hSw); go_simp; try with_reducible rfl
                    try simp only [Act.put, List.getElem_toArray, List.getElem_cons_succ, List.getElem_cons_zero, List.setIfInBounds_toArray, List.set_cons_zero, List.set_cons_succ]
                    refine wpAnyH_take (i := 5) (v := ?_) rfl (by kernel_rfl) (by kernel_rfl) (by kernel_rfl) (fun _ _ _ h => h) (Or.inl ⟨by rfl, ?hy⟩) (by assumption) ?_
                    case hy => intro w hSw; (try dsimp only at hSw); go_simp; try with_reducible rfl
                    try simp only [Act.put, List.getElem_toArray, List.getElem_cons_succ, List.getElem_cons_zero, List.setIfInBounds_toArray, List.set_cons_zero, List.set_cons_succ]
                    refine wpAnyH_take (i := 6) (v := ?_) rfl (by kernel_rfl) (by kernel_rfl) (by kernel_rfl) (fun _ _ _ h => h) (Or.inl ⟨by rfl, ?hy⟩) (by assumption) ?_
                    case hy => intro w hSw; (try dsimp only at hSw); go_simp; try with_reducible rfl
                    try simp only [Act.put, List.getElem_toArray, List.getElem_cons_succ, List.getElem_cons_zero, List.setIfInBounds_toArray, List.set_cons_zero, List.set_cons_succ]
                    refine wpAnyH_take (i := 7) (v := ?_) rfl (by kernel_rfl) (by kernel_rfl) (by kernel_rfl) (fun _ _ _ h => h) (Or.inl ⟨by rfl, ?hy⟩) (by assumption) ?_
                    case hy => intro w hSw; (try dsimp only at hSw); go_simp; try with_reducible rfl
                    try simp only [Act.put, List.getElem_toArray, List.getElem_cons_succ, List.getElem_cons_zero, List.setIfInBounds_toArray, List.set_cons_zero, List.set_cons_succ]
                    refine wpAnyH_ready (rs := [8]) (by kernel_rfl) (by simp) (AllReadyH.cons rfl (fun K hK => ?_) AllReadyH.nil)
                    go_simp
                    go_at_call 27; refine (HX.out _).mono ?_; rintro e wq ⟨rfl, hbq⟩
                    try (go_wp2_with fail)
                    refine hK.out _ _ ?_ (fun hHeld => ?_)
                    · exact SB.out _ (hHeld.2.2.trans (hbq.mono hHeld.2.2.size))
                    clear hK K
                    try simp only [Act.put, List.getElem_toArray, List.getElem_cons_succ, List.getElem_cons_zero, List.setIfInBounds_toArray, List.set_cons_zero, List.set_cons_succ]
                    refine wpAnyH_take (i := 9) (v := ?_) rfl (by kernel_rfl) (by kernel_rfl) (by kernel_rfl) (fun _ _ _ h => h) (Or.inl ⟨by rfl, ?hy⟩) (by assumption) ?_
                    case hy => intro w hSw; (try dsimp only at hSw); go_simp; try with_reducible rfl
                    try simp only [Act.put, List.getElem_toArray, List.getElem_cons_succ, List.getElem_cons_zero, List.setIfInBounds_toArray, List.set_cons_zero, List.set_cons_succ]
                    refine wpAnyH_done (by kernel_rfl) ?_ _
                    refine NoPanic.normal ?_
                    go_wp2_with (fail)
                    go_ret3
                    exact ⟨by rw [HRE.out, hix.out]; rfl, hHeld.2.2⟩
                · have j1 : ¬ (j : Int) < ln := by omega
                  have HIX : Hid (idxG (fun x => !passB x.s n s) rs = -1) := Lib.hid (idxG_none (fun x hx => HQ.out x (by rw [List.take_of_length_le (by rw [HL.out]; omega)]; exact hx)))
                  have HRE := Lib.hid (HRES.out.trans (if_pos (by rw [HIX.out]; omega)))
                  clear HQ
                  go_wp2_with (fail)
                  go_ret3
                  exact ⟨by rw [HRE.out, HL.out]; rfl, HBZ.out⟩
  · have hne : ¬ ((lnn : Int) = 1) := by omega
    have HRES := Lib.hid (sysRes_len (rs := rs) (n := n) (ns := ns) (by rw [HM.out]; exact hone))
    go_enter Try.func25, Try.ntmps25
    go_wp2_with (fail)
    go_ret3
    exact ⟨by rw [HRES.out]; rfl, Below.refl _ _⟩
end Go.Proofs.Ytnobfmlfhaaghaa