/- guard.Systems. -/
import Derived.Test.YtnobfmlfhaaghaaGuK
namespace Go.Proofs.Ytnobfmlfhaaghaa
open Go.RowKit
set_option linter.unusedVariables false
set_option linter.unusedSimpArgs false

set_option maxHeartbeats 6400000 in
set_option maxRecDepth 100000 in
theorem gsystems_any {w : World} (a an : Option Addr) (ln cap lnn capn : Nat) (rs : List SysR) (ns : List NowS) (n : Int) (hl : rs.length = ln) (hm : ns.length = lnn) (few : ln ≤ 9223372036854775807) (fewn : lnn ≤ 9223372036854775807) (hr : RowsAt w a 5 (rs.map SysR.cs)) (hs : RowsAt w an 7 (ns.map NowS.cs)) :
    Calls Try.prog 24 #[.slice a ln cap, .int .i64 n, .slice an lnn capn] w fun e w' => e = .returned (tri3 (sysRes rs n ns)) ∧ Below w.heap.size w w' := by
  have HSR : Hid (∀ (x : SysR) wx, Calls Try.prog 49 #[.agg #[.int .i64 x.q, .int .i64 x.t, .int .i64 x.r, .int .i64 x.l, .int .i64 x.c]] wx fun e w' => e = .returned (.int .i64 (sysE x.s)) ∧ Below wx.heap.size wx w') := fun x wx => sysrule_any x.s wx
  have HRT : Hid (∀ (s : NowS) wx, Calls Try.prog 50 #[.agg #[.int .i64 s.qps, .int .i64 s.thr, .int .i64 s.rt, .int .i64 s.load, .int .i64 s.cpu, .int .i64 s.most, .int .i64 s.least]] wx fun e w' => e = .returned (.bool (nowOk s)) ∧ Below wx.heap.size wx w') := fun s wx => right_any s wx
  have hal : Below w.heap.size w ((w.alloc (.cells #[.int .i64 n] 3)).alloc (.cells #[.slice an lnn capn] 54)) := ((Below.refl _ _).alloc (Nat.le_refl _) _).alloc (by simp) _
  have h0 : ((w.alloc (.cells #[.int .i64 n] 3)).alloc (.cells #[.slice an lnn capn] 54)).heap[w.heap.size]? = some (.cells #[.int .i64 n] 3) := by rw [get_allocG, if_neg (by simp), get_allocG, if_pos rfl]
  have h1 : ((w.alloc (.cells #[.int .i64 n] 3)).alloc (.cells #[.slice an lnn capn] 54)).heap[w.heap.size + 1]? = some (.cells #[.slice an lnn capn] 54) := by rw [get_allocG, if_pos (by simp)]
  have hz : ((w.alloc (.cells #[.int .i64 n] 3)).alloc (.cells #[.slice an lnn capn] 54)).heap.size = w.heap.size + 2 := by simp
  have HR := Lib.hid hr
  have HSN := Lib.hid hs
  have HL := Lib.hid hl
  have HM := Lib.hid hm
  have HFW := Lib.hid few
  clear hr hs hl hm
  by_cases hone : lnn = 1
  · obtain ⟨s, rfl⟩ : ∃ s, ns = [s] := List.length_eq_one_iff.1 (HM.out.trans hone)
    obtain ⟨nb, no, rfl, hnl, c0, c1, c2, c3, c4, c5, c6⟩ := now_get HSN.out (k := 0) rfl
    rw [Nat.zero_mul, Nat.add_zero] at c0 c1 c2 c3 c4 c5 c6
    subst hone
    go_enter Try.func24, Try.ntmps24
    go_wp2_with (fail)
    generalize ((w.alloc _).alloc _) = W at *
    have HBX : Hid (∀ wx, Below W.heap.size W wx → wx.cell? ⟨w.heap.size, 0, none⟩ = some (.int .i64 n) ∧ wx.cell? ⟨w.heap.size + 1, 0, none⟩ = some (.slice (some ⟨nb, no, none⟩) 1 capn) ∧ (wx.cell? ⟨nb, no, none⟩ = some (.int .i64 s.qps) ∧ wx.cell? ⟨nb, no + 1, none⟩ = some (.int .i64 s.thr) ∧ wx.cell? ⟨nb, no + 2, none⟩ = some (.int .i64 s.rt) ∧ wx.cell? ⟨nb, no + 3, none⟩ = some (.int .i64 s.load) ∧ wx.cell? ⟨nb, no + 4, none⟩ = some (.int .i64 s.cpu) ∧ wx.cell? ⟨nb, no + 5, none⟩ = some (.int .i64 s.most) ∧ wx.cell? ⟨nb, no + 6, none⟩ = some (.int .i64 s.least))) := fun wx hb => by
      have g0 := (hb.block w.heap.size (by omega)).trans h0
      have g1 := (hb.block (w.heap.size + 1) (by omega)).trans h1
      have hbw := hal.trans (hb.mono hal.size)
      refine ⟨?_, ?_, (hbw.cell (p := ⟨nb, no, none⟩) hnl).trans c0, (hbw.cell (p := ⟨nb, no + 1, none⟩) hnl).trans c1, (hbw.cell (p := ⟨nb, no + 2, none⟩) hnl).trans c2, (hbw.cell (p := ⟨nb, no + 3, none⟩) hnl).trans c3, (hbw.cell (p := ⟨nb, no + 4, none⟩) hnl).trans c4, (hbw.cell (p := ⟨nb, no + 5, none⟩) hnl).trans c5, (hbw.cell (p := ⟨nb, no + 6, none⟩) hnl).trans c6⟩
      · simp only [World.cell?, g0]; rfl
      · simp only [World.cell?, g1]; rfl
    have HB := Lib.hid hal
    have HZ := Lib.hid hz
    clear h0 h1 hz hal c0 c1 c2 c3 c4 c5 c6
    go_loopw [10, 11, 18] (fun _ _ i wr => ∃ (k : Nat), k ≤ ln ∧ i = .int .i64 k ∧ Hid (∀ x, x ∈ rs.take k → sysE x.s = 0) ∧ Hid (Below W.heap.size W wr)) (fun _ _ i _ => ln - (intOf i).toNat)
    case atStart => exact ⟨0, Nat.zero_le _, rfl, Lib.hid (by simp), Lib.hid (Below.refl _ _)⟩
    case round =>
      rename World => wy
      obtain ⟨k, hk, rfl, HP, HBY⟩ := hrel
      have hbz := HBY.out.size
      by_cases hlt : k < ln
      · have hkl : k < rs.length := by rw [HL.out]; exact hlt
        obtain ⟨gb, off, rfl, hgb, d0, d1, d2, d3, d4⟩ := sys_get HR.out (List.getElem?_eq_getElem hkl)
        have k0 : (0 : Int) ≤ k := by omega
        have k1 : (k : Int) < ln := by omega
        have hbw := HB.out.trans (HBY.out.mono HB.out.size)
        have HAN := Lib.hid (fun h0 => all_next (rs := rs) (k := k) HP.out (List.getElem?_eq_getElem hkl) h0)
        have HBAD := Lib.hid (fun h0 => sysRes_bad (n := n) (s := s) (List.getElem_mem hkl) h0)
        have d0 := (hbw.cell (p := ⟨gb, off + k * 5, none⟩) hgb).trans d0
        have d1 := (hbw.cell (p := ⟨gb, off + k * 5 + 1, none⟩) hgb).trans d1
        have d2 := (hbw.cell (p := ⟨gb, off + k * 5 + 2, none⟩) hgb).trans d2
        have d3 := (hbw.cell (p := ⟨gb, off + k * 5 + 3, none⟩) hgb).trans d3
        have d4 := (hbw.cell (p := ⟨gb, off + k * 5 + 4, none⟩) hgb).trans d4
        generalize rs[k]'hkl = X at *
        obtain ⟨xq, xt, xr, xl, xc⟩ := X
        dsimp only at *
        have HX := Lib.hid (HSR.out ⟨xq, xt, xr, xl, xc⟩)
        dsimp only at HX
        have HAL := Lib.hid (HBY.out.alloc hbz (.cells #[.int .i64 xq, .int .i64 xt, .int .i64 xr, .int .i64 xl, .int .i64 xc] 23))
        have HBW := Lib.hid hbw
        clear hbw
        by_cases he : sysE (SysR.s ⟨xq, xt, xr, xl, xc⟩) = 0
        · as_aux_lemma =>
          rw [he] at HX
          have HE := Lib.hid he
          clear he HBAD
          go_wp2_with (fail)
          refine (HX.out _).mono ?_
          rintro e wb ⟨rfl, hbb⟩
          have HBB := Lib.hid (HAL.out.trans (hbb.mono HAL.out.size))
          clear hbb
          go_wp2_with (fail)
          exact ⟨⟨k + 1, by omega, by go_num, Lib.hid (HAN.out HE.out), HBB⟩, by first | (simp [intOf]; done) | (simp [intOf]; omega)⟩
        · as_aux_lemma =>
          rw [sysE_33 he] at HX
          have HRES := Lib.hid (HBAD.out he)
          clear HBAD HAN he
          go_wp2_with (fail)
          refine (HX.out _).mono ?_
          rintro e wb ⟨rfl, hbb⟩
          have HBB := Lib.hid (HAL.out.trans (hbb.mono HAL.out.size))
          clear hbb
          go_wp2_with (fail)
          go_ret3
          exact ⟨by rw [HRES.out]; rfl, HB.out.trans (HBB.out.mono HB.out.size)⟩
      · have k1 : ¬ (k : Int) < ln := by omega
        have HALL : Hid (∀ x ∈ rs, sysE x.s = 0) := Lib.hid (fun x hx => HP.out x (by rw [List.take_of_length_le (by rw [HL.out]; omega)]; exact hx))
        obtain ⟨n0, b0, e0, e1, e2, e3, e4, e5, e6⟩ := HBX.out _ HBY.out
        have HBZ := Lib.hid (HB.out.trans (HBY.out.mono HB.out.size))
        clear HP
        by_cases hn0 : n < 1
        · as_aux_lemma =>
          have HRES := Lib.hid (sysRes_form (n := n) (s := s) HALL.out (by unfold nOk; rw [decide_eq_false (show ¬ 1 ≤ n by omega)]; rfl))
          go_wp2_with (fail)
          go_ret3
          exact ⟨by rw [HRES.out]; rfl, HBZ.out⟩
        · by_cases hn1 : 1099511627776 < n
          · as_aux_lemma =>
            have HRES := Lib.hid (sysRes_form (n := n) (s := s) HALL.out (by unfold nOk; rw [decide_eq_false (show ¬ n ≤ 1099511627776 by omega), Bool.and_false, Bool.false_and]))
            go_wp2_with (fail)
            go_ret3
            exact ⟨by rw [HRES.out]; rfl, HBZ.out⟩
          · have HNK : Hid (nOk n = true) := Lib.hid (by unfold nOk; rw [decide_eq_true (show 1 ≤ n by omega), decide_eq_true (show n ≤ 1099511627776 by omega)]; rfl)
            have HX := Lib.hid (HRT.out s)
            cases hno : nowOk s with
            | false => as_aux_lemma =>
              rw [hno] at HX
              have HRES := Lib.hid (sysRes_form (n := n) (s := s) HALL.out (by rw [hno, Bool.and_false]))
              clear hno
              go_wp2_with (fail)
              refine (HX.out _).mono ?_
              rintro e wb ⟨rfl, hbb⟩
              have HBB := Lib.hid (HBZ.out.trans (hbb.mono HBZ.out.size))
              clear hbb
              go_wp2_with (fail)
              go_ret3
              exact ⟨by rw [HRES.out]; rfl, HBB.out⟩
            | true => as_aux_lemma =>
              rw [hno] at HX
              have HRES := Lib.hid (sysRes_ok (n := n) (s := s) HALL.out (by rw [hno, HNK.out]; rfl))
              clear hno
              go_wp2_with (fail)
              refine (HX.out _).mono ?_
              rintro e wb ⟨rfl, hbb⟩
              have hWb := HBY.out.trans (hbb.mono HBY.out.size)
              have HWB := Lib.hid hWb
              have HBB := Lib.hid (HBZ.out.trans (hbb.mono HBZ.out.size))
              have HRW := Lib.hid (HR.out.below (Nat.le_refl _) HBB.out)
              have HIX := Lib.hid (sysidx_any a ln cap rs HL.out HFW.out HRW.out 52 #[.pointer (some ⟨w.heap.size, 0, none⟩), .pointer (some ⟨w.heap.size + 1, 0, none⟩)] (fun x => !passB x.s n s) (fun x _ wx => enSC x _ _ wx) (fun x _ wx hwx => by
                obtain ⟨f0, f1, f2⟩ := HBX.out wx (HWB.out.trans (hwx.mono HWB.out.size))
                exact sysclo_any x n s _ _ nb no capn f0 f1 f2))
              clear hbb hWb
              obtain ⟨IX, hIX⟩ : ∃ IX, idxG (fun x => !passB x.s n s) rs = IX := ⟨_, rfl⟩
              rw [hIX] at HIX HRES
              clear hIX n0 b0 e0 e1 e2 e3 e4 e5 e6
              go_wp2_with (fail)
              refine HIX.out.mono ?_
              rintro e wc ⟨rfl, hbc⟩
              have HBC := Lib.hid (HBB.out.trans (hbc.mono HBB.out.size))
              clear hbc
              by_cases hi : IX < 0
              · as_aux_lemma =>
                have HRE := Lib.hid (HRES.out.trans (if_pos hi))
                go_wp2_with (fail)
                go_ret3
                exact ⟨by rw [HRE.out, HL.out]; rfl, HBC.out⟩
              · as_aux_lemma =>
                have HRE := Lib.hid (HRES.out.trans (if_neg hi))
                go_wp2_with (fail)
                go_ret3
                exact ⟨by rw [HRE.out]; rfl, HBC.out⟩
  · have hne : ¬ ((lnn : Int) = 1) := by omega
    have HRES := Lib.hid (sysRes_len (rs := rs) (n := n) (ns := ns) (by rw [HM.out]; exact hone))
    have HB := Lib.hid hal
    go_enter Try.func24, Try.ntmps24
    go_wp2_with (fail)
    go_ret3
    exact ⟨by rw [HRES.out]; rfl, HB.out⟩
end Go.Proofs.Ytnobfmlfhaaghaa
