/- TreeSums. -/
import Derived.Test.YtpbbidijnmooaaaTrX
namespace Go.Proofs.Ytpbbidijnmooaaa
open Go.RowKit
set_option linter.unusedVariables false
set_option linter.unusedSimpArgs false

set_option maxHeartbeats 12800000 in
set_option maxRecDepth 100000 in
theorem trsums_walk {w : World} {a : Option Addr} {n cap : Nat} {ds : List TDeed} (hn : ds.length = n) (hm : n ≤ 1172812402944) (hrow : DeedRow w a ds) (hok : ∀ d, d ∈ ds → d.Ok) :
    Calls Try.prog 3 #[.slice a n cap] w fun e w' => e = .returned (.bool true) ∧ Below w.heap.size w w' := by
  have HRUN := Lib.hid (fun (wx : World) (hx : Below w.heap.size w wx) => trun_any (cap := cap) hn (by omega) (hrow.below (Nat.le_refl _) hx) hok)
  have HRU2 := Lib.hid (fun (wx : World) (a' : Option Addr) (cap' : Nat) (hr : DeedRow wx a' (ds.map outD)) => trun_any (cap := cap') (a := a') (n := n) (ds := ds.map outD) (by rw [List.length_map]; exact hn) (by omega) hr (fun d hd => by
    obtain ⟨x, hx, rfl⟩ := List.mem_map.1 hd
    exact ⟨(hok x hx).z1, (hok x hx).z2, (hok x hx).z3⟩))
  have HN := Lib.hid hn
  have HROW := Lib.hid hrow
  have HM := Lib.hid hm
  have HIV := Lib.hid (tinv_run ds)
  have HIO := Lib.hid (tinv_runO (ds.map outD) (fun d hd => by obtain ⟨x, _, rfl⟩ := List.mem_map.1 hd; rfl))
  obtain ⟨S, hS⟩ : ∃ S, runT ds = S := ⟨_, rfl⟩
  rw [hS] at HRUN HIV
  obtain ⟨U, hU⟩ : ∃ U, runT (ds.map outD) = U := ⟨_, rfl⟩
  rw [hU] at HRU2 HIO
  obtain ⟨nP, hnP⟩ : ∃ nP, S.1.length = nP := ⟨_, rfl⟩
  have HNP := Lib.hid hnP
  obtain ⟨nU, hnU⟩ : ∃ nU, U.1.length = nU := ⟨_, rfl⟩
  have HNU := Lib.hid hnU
  clear hn hrow hok hS hnP hU hnU
  go_enter Try.func3, Try.ntmps3
  go_wp2_with (fail)
  refine (trlive_any _).mono ?_
  rintro e w0 ⟨rfl, hb0⟩
  have HB0 := Lib.hid hb0
  clear hb0
  go_wp2_with (fail)
  refine (HRUN.out _ HB0.out).mono ?_
  rintro e w1 ⟨t, rfl, h1⟩
  obtain ⟨TB, ht⟩ : ∃ TB, t.tb = TB := ⟨_, rfl⟩
  rw [ht]
  have HT1 := Lib.hid h1
  have hfew : nP ≤ 512 := by rw [← HNP.out]; exact tres_few h1
  have HAL := Lib.hid (tres_all h1 ht)
  clear h1
  go_wp2_with (fail)
  refine HAL.out.mono ?_
  intro e w2 hp2
  obtain ⟨a2, c2, rfl, hk2, _, hb2⟩ := cl_keys hp2
  rw [HNP.out]
  have HT2 := Lib.hid (HT1.out.below hb2)
  have HK2 := Lib.hid hk2
  clear hp2 hk2 hb2 HAL HT1
  go_wp2_with (fail)
  go_loopw [5, 6, 7, 8, 9, 10, 11] (fun x5 _ _ _ _ _ _ wz => ∃ i : Nat, i ≤ nP ∧ x5 = .int .i64 i ∧ Hid (Below w2.heap.size w2 wz)) (fun x5 _ _ _ _ _ _ _ => nP - (intOf x5).toNat)
  case atStart => exact ⟨0, Nat.zero_le _, rfl, Lib.hid (Below.refl _ _)⟩
  case round =>
    rename World => wy
    obtain ⟨i, hi, rfl, HBY⟩ := hrel
    by_cases hilt : i < nP
    · obtain ⟨q, hq⟩ : ∃ q, (keysM S.1)[i]? = some q := ⟨_, List.getElem?_eq_getElem (by rw [keys_len, HNP.out]; exact hilt)⟩
      have hka := HK2.out.below HBY.out
      obtain ⟨g2, rfl, hg2, d0, d1, d2, d3⟩ := hka.get hq
      have HQM := Lib.hid (List.mem_of_getElem? hq)
      obtain ⟨kind, qctx, qres, qorg⟩ := q
      dsimp only at d0 d1 d2 d3 HQM
      have i0 : (0 : Int) ≤ i := by omega
      have i1 : (i : Int) < nP := by omega
      by_cases hk4 : kind = 4
      · subst hk4
        have HKA := Lib.hid (fun (wx : World) (hx : Below wy.heap.size wy wx) => (show wx.cell? ⟨g2, i * 4, none⟩ = some (.int .u8 4) ∧ wx.cell? ⟨g2, i * 4 + 1, none⟩ = some (.string qctx) ∧ wx.cell? ⟨g2, i * 4 + 2, none⟩ = some (.string qres) ∧ wx.cell? ⟨g2, i * 4 + 3, none⟩ = some (.string qorg) from by
          obtain ⟨_, r1, _, d0, d1, d2, d3⟩ := (hka.below hx).get hq
          cases r1
          exact ⟨d0, d1, d2, d3⟩))
        have HCL := Lib.hid (clus_sumN HIV.out HQM.out rfl S.2)
        have HTY := Lib.hid (HT2.out.below HBY.out)
        obtain ⟨XC, hXC⟩ : ∃ XC, sumN S.2 (nodesOf S.1 [⟨4, qctx, qres, qorg⟩]) = XC := ⟨_, rfl⟩
        obtain ⟨FL, hFL⟩ : ∃ FL, flsOf (nodesOf S.1 [⟨4, qctx, qres, qorg⟩]) = FL := ⟨_, rfl⟩
        obtain ⟨xp, xb, xd, xe, xr, xm⟩ := XC
        have HXC := Lib.hid hXC
        have HFL := Lib.hid hFL
        dsimp only at HCL
        rw [hXC, hFL] at HCL
        obtain ⟨LO, hLO⟩ : ∃ LO, (keysM S.1).filter (ofP 3 qres) = LO := ⟨_, rfl⟩
        have HIN := Lib.hid (show ∀ x, x ∈ LO → x ∈ keysM S.1 from fun x hx => by rw [← hLO] at hx; exact (List.mem_filter.1 hx).1)
        rw [hLO] at HCL
        have HLO := Lib.hid hLO
        obtain ⟨nO, hnO⟩ : ∃ nO, LO.length = nO := ⟨_, rfl⟩
        have HFEW := Lib.hid (show nO ≤ 1048576 by
          rw [← hnO, ← hLO]
          refine Nat.le_trans (List.length_filter_le _ _) ?_
          rw [keys_len, HNP.out]; omega)
        have HNO := Lib.hid (show LO.length = nO from hnO)
        have HNO2 := Lib.hid (show ((keysM S.1).filter (ofP 3 qres)).length = nO by rw [hLO]; exact hnO)
        clear hq hka hXC hFL hLO hnO
        have HL9 := Lib.hid (fun (wx : World) (hx : Below wy.heap.size wy wx) => tres_last (HTY.out.below hx) ht)
        have HS9 := Lib.hid (fun (wx : World) (gk : Nat) (hx : Below wy.heap.size wy wx) (hg : wx.heap[gk]? = some (.cells #[.int .u8 4, .string qctx, .string qres, .string qorg] 30)) => tres_sumone (HTY.out.below hx) ht ⟨4, qctx, qres, qorg⟩ HQM.out gk hg)
        have HBwy0 := Lib.hid (show Below wy.heap.size wy wy.drew from (Below.refl _ _).drew)
        rw [HXC.out, HFL.out] at HS9
        unfold ctV at HS9
        dsimp only at HS9
        go_upto_region 9 with (fail)
        go_cut [6, 7, 8] from 30 to 85 (fun x y z wx => ∃ B, x = .pointer (some ⟨B, 0, none⟩) ∧ y = .int .i64 FL ∧ z = .int .i64 0 ∧ Hid (wy.heap.size ≤ B ∧ wx.heap[B]? = some (.cells #[.int .i64 xp, .int .i64 xb, .int .i64 xd, .int .i64 xe, .int .i64 xr, .int .i64 xm] 32) ∧ Below wy.heap.size wy wx))
        case first =>
          refine wp_region_noPanic ?_
          refine wp_region_held_drew (S := (fun wx => wx.cell? ⟨g2, i * 4, none⟩ = some (.int .u8 4) ∧ wx.cell? ⟨g2, i * 4 + 1, none⟩ = some (.string qctx) ∧ wx.cell? ⟨g2, i * 4 + 2, none⟩ = some (.string qres) ∧ wx.cell? ⟨g2, i * 4 + 3, none⟩ = some (.string qorg))) (by kernel_rfl) ?_ (fun hHeld => ?_)
          · exact HKA.out _ HBwy0.out
          refine wpAnyH_take (i := 0) (v := ?_) rfl (by kernel_rfl) (by kernel_rfl) (by kernel_rfl) (fun _ _ _ h => h) (Or.inl ⟨by rfl, ?hy⟩) (by assumption) ?_
          case hy => intro w hSw; (try dsimp only at hSw); go_simp; try with_reducible rfl
          try simp only [Act.put, List.getElem_toArray, List.getElem_cons_succ, List.getElem_cons_zero, List.setIfInBounds_toArray, List.set_cons_zero, List.set_cons_succ]
          refine wpAnyH_take (i := 1) (v := ?_) rfl (by kernel_rfl) (by kernel_rfl) (by kernel_rfl) (fun _ _ _ h => h) (Or.inl ⟨by rfl, ?hy⟩) (by assumption) ?_
          case hy => intro w hSw; (try dsimp only at hSw); go_simp; try with_reducible rfl
          try simp only [Act.put, List.getElem_toArray, List.getElem_cons_succ, List.getElem_cons_zero, List.setIfInBounds_toArray, List.set_cons_zero, List.set_cons_succ]
          refine wpAnyH_take (i := 3) (v := ?_) rfl (by kernel_rfl) (by kernel_rfl) (by kernel_rfl) (fun _ _ _ h => h) (Or.inl ⟨by rfl, ?hy⟩) (by assumption) ?_
          case hy => intro w hSw; (try dsimp only at hSw); go_simp; try with_reducible rfl
          try simp only [Act.put, List.getElem_toArray, List.getElem_cons_succ, List.getElem_cons_zero, List.setIfInBounds_toArray, List.set_cons_zero, List.set_cons_succ]
          refine wpAnyH_take (i := 4) (v := ?_) rfl (by kernel_rfl) (by kernel_rfl) (by kernel_rfl) (fun _ _ _ h => h) (Or.inl ⟨by rfl, ?hy⟩) (by assumption) ?_
          case hy => intro w hSw; (try dsimp only at hSw); go_simp; try with_reducible rfl
          try simp only [Act.put, List.getElem_toArray, List.getElem_cons_succ, List.getElem_cons_zero, List.setIfInBounds_toArray, List.set_cons_zero, List.set_cons_succ]
          refine wpAnyH_take (i := 5) (v := ?_) rfl (by kernel_rfl) (by kernel_rfl) (by kernel_rfl) (fun _ _ _ h => h) (Or.inl ⟨by rfl, ?hy⟩) (by assumption) ?_
          case hy => intro w hSw; (try dsimp only at hSw); go_simp; try with_reducible rfl
          try simp only [Act.put, List.getElem_toArray, List.getElem_cons_succ, List.getElem_cons_zero, List.setIfInBounds_toArray, List.set_cons_zero, List.set_cons_succ]
          refine wpAnyH_take (i := 6) (v := ?_) rfl (by kernel_rfl) (by kernel_rfl) (by kernel_rfl) (fun _ _ _ h => h) (Or.inl ⟨by rfl, ?hy⟩) (by assumption) ?_
          case hy => intro w hSw; (try dsimp only at hSw); go_simp; try with_reducible rfl
          try simp only [Act.put, List.getElem_toArray, List.getElem_cons_succ, List.getElem_cons_zero, List.setIfInBounds_toArray, List.set_cons_zero, List.set_cons_succ]
          obtain ⟨wd9, hwd9⟩ : ∃ x, wy.drew = x := ⟨_, rfl⟩
          have HBwd9 := Lib.hid (show Below wy.heap.size wy wd9 from by rw [← hwd9]; exact (Below.refl _ _).drew)
          simp only [hwd9] at hHeld ⊢
          clear hwd9
          refine wpAnyH_ready (rs := [2, 7, 13]) (by kernel_rfl) (by simp) (AllReadyH.cons rfl (fun K hK => ?_) (AllReadyH.cons rfl (fun K hK => ?_) (AllReadyH.cons rfl (fun K hK => ?_) AllReadyH.nil)))
          · go_simp
            go_at_call 11
            refine (HL9.out wd9 HBwd9.out).mono ?_
            rintro e wl1 ⟨rfl, hq⟩
            rw [hq]
            clear hq
            try (go_wp2_with fail)
            refine hK.out _ _ ?_ (fun hHeld => ?_)
            · exact HKA.out _ HBwd9.out
            clear hK K
            try simp only [Act.put, List.getElem_toArray, List.getElem_cons_succ, List.getElem_cons_zero, List.setIfInBounds_toArray, List.set_cons_zero, List.set_cons_succ]
            refine wpAnyH_ready (rs := [7, 13]) (by kernel_rfl) (by simp) (AllReadyH.cons rfl (fun K hK => ?_) (AllReadyH.cons rfl (fun K hK => ?_) AllReadyH.nil))
            · go_simp
              try (go_wp2_with fail)
              obtain ⟨wa9x2, hwa9x2⟩ : ∃ x, wd9.alloc (.cells #[.int .u8 4, .string qctx, .string qres, .string qorg] 30) = x := ⟨_, rfl⟩
              have HAwa9x2 := Lib.hid (show Below wd9.heap.size wd9 wa9x2 from by rw [← hwa9x2]; exact (Below.refl _ _).alloc (Nat.le_refl _) _)
              have HNwa9x2 := Lib.hid (show wa9x2.heap[wd9.heap.size]? = some (.cells #[.int .u8 4, .string qctx, .string qres, .string qorg] 30) from by rw [← hwa9x2]; exact new_blockS wd9 _)
              have HBwa9x2 := Lib.hid (HBwd9.out.trans (HAwa9x2.out.mono HBwd9.out.size))
              have HKwa9x2 := HNwa9x2
              rw [hwa9x2]
              clear hwa9x2
              refine hK.out _ _ ?_ (fun hHeld => ?_)
              · exact HKA.out _ HBwa9x2.out
              clear hK K
              try simp only [Act.put, List.getElem_toArray, List.getElem_cons_succ, List.getElem_cons_zero, List.setIfInBounds_toArray, List.set_cons_zero, List.set_cons_succ]
              refine wpAnyH_ready (rs := [8, 13]) (by kernel_rfl) (by simp) (AllReadyH.cons rfl (fun K hK => ?_) (AllReadyH.cons rfl (fun K hK => ?_) AllReadyH.nil))
              · go_simp
                go_at_call 10
                refine (HS9.out wa9x2 _ HBwa9x2.out HKwa9x2.out).mono ?_
                rintro e ws9x3 ⟨rfl, hby⟩
                have HBws9x3 := Lib.hid (HBwa9x2.out.trans (hby.mono HBwa9x2.out.size))
                have HKws9x3 := Lib.hid (hby.block _ (Array.getElem?_eq_some_iff.1 HKwa9x2.out).1 |>.trans HKwa9x2.out)
                clear hby
                try (go_wp2_with fail)
                refine hK.out _ _ ?_ (fun hHeld => ?_)
                · exact HKA.out _ HBws9x3.out
                clear hK K
                try simp only [Act.put, List.getElem_toArray, List.getElem_cons_succ, List.getElem_cons_zero, List.setIfInBounds_toArray, List.set_cons_zero, List.set_cons_succ]
                refine wpAnyH_take (i := 9) (v := ?_) rfl (by kernel_rfl) (by kernel_rfl) (by kernel_rfl) (fun _ _ _ h => h) (Or.inl ⟨by rfl, ?hy⟩) (by assumption) ?_
                case hy => intro w hSw; (try dsimp only at hSw); go_simp; try with_reducible rfl
                try simp only [Act.put, List.getElem_toArray, List.getElem_cons_succ, List.getElem_cons_zero, List.setIfInBounds_toArray, List.set_cons_zero, List.set_cons_succ]
                refine wpAnyH_take (i := 10) (v := ?_) rfl (by kernel_rfl) (by kernel_rfl) (by kernel_rfl) (fun _ _ _ h => h) (Or.inl ⟨by rfl, ?hy⟩) (by assumption) ?_
                case hy => intro w hSw; (try dsimp only at hSw); go_simp; try with_reducible rfl
                try simp only [Act.put, List.getElem_toArray, List.getElem_cons_succ, List.getElem_cons_zero, List.setIfInBounds_toArray, List.set_cons_zero, List.set_cons_succ]
                refine wpAnyH_take (i := 11) (v := ?_) rfl (by kernel_rfl) (by kernel_rfl) (by kernel_rfl) (fun _ _ _ h => h) (Or.inl ⟨by rfl, ?hy⟩) (by assumption) ?_
                case hy => intro w hSw; (try dsimp only at hSw); go_simp; try with_reducible rfl
                try simp only [Act.put, List.getElem_toArray, List.getElem_cons_succ, List.getElem_cons_zero, List.setIfInBounds_toArray, List.set_cons_zero, List.set_cons_succ]
                refine wpAnyH_take (i := 12) (v := ?_) rfl (by kernel_rfl) (by kernel_rfl) (by kernel_rfl) (fun _ _ _ h => h) (Or.inl ⟨by rfl, ?hy⟩) (by assumption) ?_
                case hy => intro w hSw; (try dsimp only at hSw); go_simp; try with_reducible rfl
                try simp only [Act.put, List.getElem_toArray, List.getElem_cons_succ, List.getElem_cons_zero, List.setIfInBounds_toArray, List.set_cons_zero, List.set_cons_succ]
                refine wpAnyH_ready (rs := [13]) (by kernel_rfl) (by simp) (AllReadyH.cons rfl (fun K hK => ?_) AllReadyH.nil)
                go_simp
                try (go_wp2_with fail)
                obtain ⟨wa9x4, hwa9x4⟩ : ∃ x, ws9x3.alloc (.cells #[.int .i64 0, .int .i64 0, .int .i64 0, .int .i64 0, .int .i64 0, .int .i64 0] 32) = x := ⟨_, rfl⟩
                have HAwa9x4 := Lib.hid (show Below ws9x3.heap.size ws9x3 wa9x4 from by rw [← hwa9x4]; exact (Below.refl _ _).alloc (Nat.le_refl _) _)
                have HNwa9x4 := Lib.hid (show wa9x4.heap[ws9x3.heap.size]? = some (.cells #[.int .i64 0, .int .i64 0, .int .i64 0, .int .i64 0, .int .i64 0, .int .i64 0] 32) from by rw [← hwa9x4]; exact new_blockS ws9x3 _)
                have HBwa9x4 := Lib.hid (HBws9x3.out.trans (HAwa9x4.out.mono HBws9x3.out.size))
                have HKwa9x4 := Lib.hid (HAwa9x4.out.block _ (Array.getElem?_eq_some_iff.1 HKws9x3.out).1 |>.trans HKws9x3.out)
                have HCwa9x4 := HNwa9x4
                have HG9 := Lib.hid (show wy.heap.size ≤ ws9x3.heap.size from HBws9x3.out.size)
                rw [hwa9x4]
                clear hwa9x4
                refine hK.out _ _ ?_ (fun hHeld => ?_)
                · exact HKA.out _ HBwa9x4.out
                clear hK K
                try simp only [Act.put, List.getElem_toArray, List.getElem_cons_succ, List.getElem_cons_zero, List.setIfInBounds_toArray, List.set_cons_zero, List.set_cons_succ]
                refine wpAnyH_ready (rs := [14]) (by kernel_rfl) (by simp) (AllReadyH.cons rfl (fun K hK => ?_) AllReadyH.nil)
                obtain ⟨⟨z0, z1, z2, z3, z4, z5⟩, zf⟩ := ct_cells (c := .zero) HCwa9x4.out
                dsimp only [CntS.zero] at z0 z1 z2 z3 z4 z5
                go_simp
                have HF9 := Lib.hid (fin_set HBwa9x4.out HG9.out HCwa9x4.out xp xb xd xe xr xm)
                refine hK.out _ _ ?_ (fun hHeld => ?_)
                · exact HKA.out _ HF9.out.2.2
                clear hK K
                try simp only [Act.put, List.getElem_toArray, List.getElem_cons_succ, List.getElem_cons_zero, List.setIfInBounds_toArray, List.set_cons_zero, List.set_cons_succ]
                refine wpAnyH_take (i := 15) (v := ?_) rfl (by kernel_rfl) (by kernel_rfl) (by kernel_rfl) (fun _ _ _ h => h) (Or.inl ⟨by rfl, ?hy⟩) (by assumption) ?_
                case hy => intro w hSw; (try dsimp only at hSw); go_simp; try with_reducible rfl
                try simp only [Act.put, List.getElem_toArray, List.getElem_cons_succ, List.getElem_cons_zero, List.setIfInBounds_toArray, List.set_cons_zero, List.set_cons_succ]
                refine wpAnyH_take (i := 16) (v := ?_) rfl (by kernel_rfl) (by kernel_rfl) (by kernel_rfl) (fun _ _ _ h => h) (Or.inl ⟨by rfl, ?hy⟩) (by assumption) ?_
                case hy => intro w hSw; (try dsimp only at hSw); go_simp; try with_reducible rfl
                try simp only [Act.put, List.getElem_toArray, List.getElem_cons_succ, List.getElem_cons_zero, List.setIfInBounds_toArray, List.set_cons_zero, List.set_cons_succ]
                refine wpAnyH_done (by kernel_rfl) ?_ _
                refine NoPanic.normal ?_
                try (go_wp2_with fail)
                go_meet
                exact ⟨_, rfl, rfl, rfl, HF9⟩
              · go_simp
                try (go_wp2_with fail)
                obtain ⟨wa9x6, hwa9x6⟩ : ∃ x, wa9x2.alloc (.cells #[.int .i64 0, .int .i64 0, .int .i64 0, .int .i64 0, .int .i64 0, .int .i64 0] 32) = x := ⟨_, rfl⟩
                have HAwa9x6 := Lib.hid (show Below wa9x2.heap.size wa9x2 wa9x6 from by rw [← hwa9x6]; exact (Below.refl _ _).alloc (Nat.le_refl _) _)
                have HNwa9x6 := Lib.hid (show wa9x6.heap[wa9x2.heap.size]? = some (.cells #[.int .i64 0, .int .i64 0, .int .i64 0, .int .i64 0, .int .i64 0, .int .i64 0] 32) from by rw [← hwa9x6]; exact new_blockS wa9x2 _)
                have HBwa9x6 := Lib.hid (HBwa9x2.out.trans (HAwa9x6.out.mono HBwa9x2.out.size))
                have HKwa9x6 := Lib.hid (HAwa9x6.out.block _ (Array.getElem?_eq_some_iff.1 HKwa9x2.out).1 |>.trans HKwa9x2.out)
                have HCwa9x6 := HNwa9x6
                have HG9 := Lib.hid (show wy.heap.size ≤ wa9x2.heap.size from HBwa9x2.out.size)
                rw [hwa9x6]
                clear hwa9x6
                refine hK.out _ _ ?_ (fun hHeld => ?_)
                · exact HKA.out _ HBwa9x6.out
                clear hK K
                try simp only [Act.put, List.getElem_toArray, List.getElem_cons_succ, List.getElem_cons_zero, List.setIfInBounds_toArray, List.set_cons_zero, List.set_cons_succ]
                refine wpAnyH_ready (rs := [8]) (by kernel_rfl) (by simp) (AllReadyH.cons rfl (fun K hK => ?_) AllReadyH.nil)
                go_simp
                go_at_call 10
                refine (HS9.out wa9x6 _ HBwa9x6.out HKwa9x6.out).mono ?_
                rintro e ws9x7 ⟨rfl, hby⟩
                have HBws9x7 := Lib.hid (HBwa9x6.out.trans (hby.mono HBwa9x6.out.size))
                have HKws9x7 := Lib.hid (hby.block _ (Array.getElem?_eq_some_iff.1 HKwa9x6.out).1 |>.trans HKwa9x6.out)
                have HCws9x7 := Lib.hid (hby.block _ (Array.getElem?_eq_some_iff.1 HCwa9x6.out).1 |>.trans HCwa9x6.out)
                clear hby
                try (go_wp2_with fail)
                refine hK.out _ _ ?_ (fun hHeld => ?_)
                · exact HKA.out _ HBws9x7.out
                clear hK K
                try simp only [Act.put, List.getElem_toArray, List.getElem_cons_succ, List.getElem_cons_zero, List.setIfInBounds_toArray, List.set_cons_zero, List.set_cons_succ]
                refine wpAnyH_take (i := 9) (v := ?_) rfl (by kernel_rfl) (by kernel_rfl) (by kernel_rfl) (fun _ _ _ h => h) (Or.inl ⟨by rfl, ?hy⟩) (by assumption) ?_
                case hy => intro w hSw; (try dsimp only at hSw); go_simp; try with_reducible rfl
                try simp only [Act.put, List.getElem_toArray, List.getElem_cons_succ, List.getElem_cons_zero, List.setIfInBounds_toArray, List.set_cons_zero, List.set_cons_succ]
                refine wpAnyH_take (i := 10) (v := ?_) rfl (by kernel_rfl) (by kernel_rfl) (by kernel_rfl) (fun _ _ _ h => h) (Or.inl ⟨by rfl, ?hy⟩) (by assumption) ?_
                case hy => intro w hSw; (try dsimp only at hSw); go_simp; try with_reducible rfl
                try simp only [Act.put, List.getElem_toArray, List.getElem_cons_succ, List.getElem_cons_zero, List.setIfInBounds_toArray, List.set_cons_zero, List.set_cons_succ]
                refine wpAnyH_take (i := 11) (v := ?_) rfl (by kernel_rfl) (by kernel_rfl) (by kernel_rfl) (fun _ _ _ h => h) (Or.inl ⟨by rfl, ?hy⟩) (by assumption) ?_
                case hy => intro w hSw; (try dsimp only at hSw); go_simp; try with_reducible rfl
                try simp only [Act.put, List.getElem_toArray, List.getElem_cons_succ, List.getElem_cons_zero, List.setIfInBounds_toArray, List.set_cons_zero, List.set_cons_succ]
                refine wpAnyH_take (i := 12) (v := ?_) rfl (by kernel_rfl) (by kernel_rfl) (by kernel_rfl) (fun _ _ _ h => h) (Or.inl ⟨by rfl, ?hy⟩) (by assumption) ?_
                case hy => intro w hSw; (try dsimp only at hSw); go_simp; try with_reducible rfl
                try simp only [Act.put, List.getElem_toArray, List.getElem_cons_succ, List.getElem_cons_zero, List.setIfInBounds_toArray, List.set_cons_zero, List.set_cons_succ]
                refine wpAnyH_ready (rs := [14]) (by kernel_rfl) (by simp) (AllReadyH.cons rfl (fun K hK => ?_) AllReadyH.nil)
                obtain ⟨⟨z0, z1, z2, z3, z4, z5⟩, zf⟩ := ct_cells (c := .zero) HCws9x7.out
                dsimp only [CntS.zero] at z0 z1 z2 z3 z4 z5
                go_simp
                have HF9 := Lib.hid (fin_set HBws9x7.out HG9.out HCws9x7.out xp xb xd xe xr xm)
                refine hK.out _ _ ?_ (fun hHeld => ?_)
                · exact HKA.out _ HF9.out.2.2
                clear hK K
                try simp only [Act.put, List.getElem_toArray, List.getElem_cons_succ, List.getElem_cons_zero, List.setIfInBounds_toArray, List.set_cons_zero, List.set_cons_succ]
                refine wpAnyH_take (i := 15) (v := ?_) rfl (by kernel_rfl) (by kernel_rfl) (by kernel_rfl) (fun _ _ _ h => h) (Or.inl ⟨by rfl, ?hy⟩) (by assumption) ?_
                case hy => intro w hSw; (try dsimp only at hSw); go_simp; try with_reducible rfl
                try simp only [Act.put, List.getElem_toArray, List.getElem_cons_succ, List.getElem_cons_zero, List.setIfInBounds_toArray, List.set_cons_zero, List.set_cons_succ]
                refine wpAnyH_take (i := 16) (v := ?_) rfl (by kernel_rfl) (by kernel_rfl) (by kernel_rfl) (fun _ _ _ h => h) (Or.inl ⟨by rfl, ?hy⟩) (by assumption) ?_
                case hy => intro w hSw; (try dsimp only at hSw); go_simp; try with_reducible rfl
                try simp only [Act.put, List.getElem_toArray, List.getElem_cons_succ, List.getElem_cons_zero, List.setIfInBounds_toArray, List.set_cons_zero, List.set_cons_succ]
                refine wpAnyH_done (by kernel_rfl) ?_ _
                refine NoPanic.normal ?_
                try (go_wp2_with fail)
                go_meet
                exact ⟨_, rfl, rfl, rfl, HF9⟩
            · go_simp
              try (go_wp2_with fail)
              obtain ⟨wa9x9, hwa9x9⟩ : ∃ x, wd9.alloc (.cells #[.int .i64 0, .int .i64 0, .int .i64 0, .int .i64 0, .int .i64 0, .int .i64 0] 32) = x := ⟨_, rfl⟩
              have HAwa9x9 := Lib.hid (show Below wd9.heap.size wd9 wa9x9 from by rw [← hwa9x9]; exact (Below.refl _ _).alloc (Nat.le_refl _) _)
              have HNwa9x9 := Lib.hid (show wa9x9.heap[wd9.heap.size]? = some (.cells #[.int .i64 0, .int .i64 0, .int .i64 0, .int .i64 0, .int .i64 0, .int .i64 0] 32) from by rw [← hwa9x9]; exact new_blockS wd9 _)
              have HBwa9x9 := Lib.hid (HBwd9.out.trans (HAwa9x9.out.mono HBwd9.out.size))
              have HCwa9x9 := HNwa9x9
              have HG9 := Lib.hid (show wy.heap.size ≤ wd9.heap.size from HBwd9.out.size)
              rw [hwa9x9]
              clear hwa9x9
              refine hK.out _ _ ?_ (fun hHeld => ?_)
              · exact HKA.out _ HBwa9x9.out
              clear hK K
              try simp only [Act.put, List.getElem_toArray, List.getElem_cons_succ, List.getElem_cons_zero, List.setIfInBounds_toArray, List.set_cons_zero, List.set_cons_succ]
              refine wpAnyH_ready (rs := [7]) (by kernel_rfl) (by simp) (AllReadyH.cons rfl (fun K hK => ?_) AllReadyH.nil)
              go_simp
              try (go_wp2_with fail)
              obtain ⟨wa9x10, hwa9x10⟩ : ∃ x, wa9x9.alloc (.cells #[.int .u8 4, .string qctx, .string qres, .string qorg] 30) = x := ⟨_, rfl⟩
              have HAwa9x10 := Lib.hid (show Below wa9x9.heap.size wa9x9 wa9x10 from by rw [← hwa9x10]; exact (Below.refl _ _).alloc (Nat.le_refl _) _)
              have HNwa9x10 := Lib.hid (show wa9x10.heap[wa9x9.heap.size]? = some (.cells #[.int .u8 4, .string qctx, .string qres, .string qorg] 30) from by rw [← hwa9x10]; exact new_blockS wa9x9 _)
              have HBwa9x10 := Lib.hid (HBwa9x9.out.trans (HAwa9x10.out.mono HBwa9x9.out.size))
              have HCwa9x10 := Lib.hid (HAwa9x10.out.block _ (Array.getElem?_eq_some_iff.1 HCwa9x9.out).1 |>.trans HCwa9x9.out)
              have HKwa9x10 := HNwa9x10
              rw [hwa9x10]
              clear hwa9x10
              refine hK.out _ _ ?_ (fun hHeld => ?_)
              · exact HKA.out _ HBwa9x10.out
              clear hK K
              try simp only [Act.put, List.getElem_toArray, List.getElem_cons_succ, List.getElem_cons_zero, List.setIfInBounds_toArray, List.set_cons_zero, List.set_cons_succ]
              refine wpAnyH_ready (rs := [8]) (by kernel_rfl) (by simp) (AllReadyH.cons rfl (fun K hK => ?_) AllReadyH.nil)
              go_simp
              go_at_call 10
              refine (HS9.out wa9x10 _ HBwa9x10.out HKwa9x10.out).mono ?_
              rintro e ws9x11 ⟨rfl, hby⟩
              have HBws9x11 := Lib.hid (HBwa9x10.out.trans (hby.mono HBwa9x10.out.size))
              have HKws9x11 := Lib.hid (hby.block _ (Array.getElem?_eq_some_iff.1 HKwa9x10.out).1 |>.trans HKwa9x10.out)
              have HCws9x11 := Lib.hid (hby.block _ (Array.getElem?_eq_some_iff.1 HCwa9x10.out).1 |>.trans HCwa9x10.out)
              clear hby
              try (go_wp2_with fail)
              refine hK.out _ _ ?_ (fun hHeld => ?_)
              · exact HKA.out _ HBws9x11.out
              clear hK K
              try simp only [Act.put, List.getElem_toArray, List.getElem_cons_succ, List.getElem_cons_zero, List.setIfInBounds_toArray, List.set_cons_zero, List.set_cons_succ]
              refine wpAnyH_take (i := 9) (v := ?_) rfl (by kernel_rfl) (by kernel_rfl) (by kernel_rfl) (fun _ _ _ h => h) (Or.inl ⟨by rfl, ?hy⟩) (by assumption) ?_
              case hy => intro w hSw; (try dsimp only at hSw); go_simp; try with_reducible rfl
              try simp only [Act.put, List.getElem_toArray, List.getElem_cons_succ, List.getElem_cons_zero, List.setIfInBounds_toArray, List.set_cons_zero, List.set_cons_succ]
              refine wpAnyH_take (i := 10) (v := ?_) rfl (by kernel_rfl) (by kernel_rfl) (by kernel_rfl) (fun _ _ _ h => h) (Or.inl ⟨by rfl, ?hy⟩) (by assumption) ?_
              case hy => intro w hSw; (try dsimp only at hSw); go_simp; try with_reducible rfl
              try simp only [Act.put, List.getElem_toArray, List.getElem_cons_succ, List.getElem_cons_zero, List.setIfInBounds_toArray, List.set_cons_zero, List.set_cons_succ]
              refine wpAnyH_take (i := 11) (v := ?_) rfl (by kernel_rfl) (by kernel_rfl) (by kernel_rfl) (fun _ _ _ h => h) (Or.inl ⟨by rfl, ?hy⟩) (by assumption) ?_
              case hy => intro w hSw; (try dsimp only at hSw); go_simp; try with_reducible rfl
              try simp only [Act.put, List.getElem_toArray, List.getElem_cons_succ, List.getElem_cons_zero, List.setIfInBounds_toArray, List.set_cons_zero, List.set_cons_succ]
              refine wpAnyH_take (i := 12) (v := ?_) rfl (by kernel_rfl) (by kernel_rfl) (by kernel_rfl) (fun _ _ _ h => h) (Or.inl ⟨by rfl, ?hy⟩) (by assumption) ?_
              case hy => intro w hSw; (try dsimp only at hSw); go_simp; try with_reducible rfl
              try simp only [Act.put, List.getElem_toArray, List.getElem_cons_succ, List.getElem_cons_zero, List.setIfInBounds_toArray, List.set_cons_zero, List.set_cons_succ]
              refine wpAnyH_ready (rs := [14]) (by kernel_rfl) (by simp) (AllReadyH.cons rfl (fun K hK => ?_) AllReadyH.nil)
              obtain ⟨⟨z0, z1, z2, z3, z4, z5⟩, zf⟩ := ct_cells (c := .zero) HCws9x11.out
              dsimp only [CntS.zero] at z0 z1 z2 z3 z4 z5
              go_simp
              have HF9 := Lib.hid (fin_set HBws9x11.out HG9.out HCws9x11.out xp xb xd xe xr xm)
              refine hK.out _ _ ?_ (fun hHeld => ?_)
              · exact HKA.out _ HF9.out.2.2
              clear hK K
              try simp only [Act.put, List.getElem_toArray, List.getElem_cons_succ, List.getElem_cons_zero, List.setIfInBounds_toArray, List.set_cons_zero, List.set_cons_succ]
              refine wpAnyH_take (i := 15) (v := ?_) rfl (by kernel_rfl) (by kernel_rfl) (by kernel_rfl) (fun _ _ _ h => h) (Or.inl ⟨by rfl, ?hy⟩) (by assumption) ?_
              case hy => intro w hSw; (try dsimp only at hSw); go_simp; try with_reducible rfl
              try simp only [Act.put, List.getElem_toArray, List.getElem_cons_succ, List.getElem_cons_zero, List.setIfInBounds_toArray, List.set_cons_zero, List.set_cons_succ]
              refine wpAnyH_take (i := 16) (v := ?_) rfl (by kernel_rfl) (by kernel_rfl) (by kernel_rfl) (fun _ _ _ h => h) (Or.inl ⟨by rfl, ?hy⟩) (by assumption) ?_
              case hy => intro w hSw; (try dsimp only at hSw); go_simp; try with_reducible rfl
              try simp only [Act.put, List.getElem_toArray, List.getElem_cons_succ, List.getElem_cons_zero, List.setIfInBounds_toArray, List.set_cons_zero, List.set_cons_succ]
              refine wpAnyH_done (by kernel_rfl) ?_ _
              refine NoPanic.normal ?_
              try (go_wp2_with fail)
              go_meet
              exact ⟨_, rfl, rfl, rfl, HF9⟩
          · go_simp
            try (go_wp2_with fail)
            obtain ⟨wa9x13, hwa9x13⟩ : ∃ x, wd9.alloc (.cells #[.int .u8 4, .string qctx, .string qres, .string qorg] 30) = x := ⟨_, rfl⟩
            have HAwa9x13 := Lib.hid (show Below wd9.heap.size wd9 wa9x13 from by rw [← hwa9x13]; exact (Below.refl _ _).alloc (Nat.le_refl _) _)
            have HNwa9x13 := Lib.hid (show wa9x13.heap[wd9.heap.size]? = some (.cells #[.int .u8 4, .string qctx, .string qres, .string qorg] 30) from by rw [← hwa9x13]; exact new_blockS wd9 _)
            have HBwa9x13 := Lib.hid (HBwd9.out.trans (HAwa9x13.out.mono HBwd9.out.size))
            have HKwa9x13 := HNwa9x13
            rw [hwa9x13]
            clear hwa9x13
            refine hK.out _ _ ?_ (fun hHeld => ?_)
            · exact HKA.out _ HBwa9x13.out
            clear hK K
            try simp only [Act.put, List.getElem_toArray, List.getElem_cons_succ, List.getElem_cons_zero, List.setIfInBounds_toArray, List.set_cons_zero, List.set_cons_succ]
            refine wpAnyH_ready (rs := [2, 13]) (by kernel_rfl) (by simp) (AllReadyH.cons rfl (fun K hK => ?_) (AllReadyH.cons rfl (fun K hK => ?_) AllReadyH.nil))
            · go_simp
              go_at_call 11
              refine (HL9.out wa9x13 HBwa9x13.out).mono ?_
              rintro e wl14 ⟨rfl, hq⟩
              rw [hq]
              clear hq
              try (go_wp2_with fail)
              refine hK.out _ _ ?_ (fun hHeld => ?_)
              · exact HKA.out _ HBwa9x13.out
              clear hK K
              try simp only [Act.put, List.getElem_toArray, List.getElem_cons_succ, List.getElem_cons_zero, List.setIfInBounds_toArray, List.set_cons_zero, List.set_cons_succ]
              refine wpAnyH_ready (rs := [8, 13]) (by kernel_rfl) (by simp) (AllReadyH.cons rfl (fun K hK => ?_) (AllReadyH.cons rfl (fun K hK => ?_) AllReadyH.nil))
              · go_simp
                go_at_call 10
                refine (HS9.out wa9x13 _ HBwa9x13.out HKwa9x13.out).mono ?_
                rintro e ws9x15 ⟨rfl, hby⟩
                have HBws9x15 := Lib.hid (HBwa9x13.out.trans (hby.mono HBwa9x13.out.size))
                have HKws9x15 := Lib.hid (hby.block _ (Array.getElem?_eq_some_iff.1 HKwa9x13.out).1 |>.trans HKwa9x13.out)
                clear hby
                try (go_wp2_with fail)
                refine hK.out _ _ ?_ (fun hHeld => ?_)
                · exact HKA.out _ HBws9x15.out
                clear hK K
                try simp only [Act.put, List.getElem_toArray, List.getElem_cons_succ, List.getElem_cons_zero, List.setIfInBounds_toArray, List.set_cons_zero, List.set_cons_succ]
                refine wpAnyH_take (i := 9) (v := ?_) rfl (by kernel_rfl) (by kernel_rfl) (by kernel_rfl) (fun _ _ _ h => h) (Or.inl ⟨by rfl, ?hy⟩) (by assumption) ?_
                case hy => intro w hSw; (try dsimp only at hSw); go_simp; try with_reducible rfl
                try simp only [Act.put, List.getElem_toArray, List.getElem_cons_succ, List.getElem_cons_zero, List.setIfInBounds_toArray, List.set_cons_zero, List.set_cons_succ]
                refine wpAnyH_take (i := 10) (v := ?_) rfl (by kernel_rfl) (by kernel_rfl) (by kernel_rfl) (fun _ _ _ h => h) (Or.inl ⟨by rfl, ?hy⟩) (by assumption) ?_
                case hy => intro w hSw; (try dsimp only at hSw); go_simp; try with_reducible rfl
                try simp only [Act.put, List.getElem_toArray, List.getElem_cons_succ, List.getElem_cons_zero, List.setIfInBounds_toArray, List.set_cons_zero, List.set_cons_succ]
                refine wpAnyH_take (i := 11) (v := ?_) rfl (by kernel_rfl) (by kernel_rfl) (by kernel_rfl) (fun _ _ _ h => h) (Or.inl ⟨by rfl, ?hy⟩) (by assumption) ?_
                case hy => intro w hSw; (try dsimp only at hSw); go_simp; try with_reducible rfl
                try simp only [Act.put, List.getElem_toArray, List.getElem_cons_succ, List.getElem_cons_zero, List.setIfInBounds_toArray, List.set_cons_zero, List.set_cons_succ]
                refine wpAnyH_take (i := 12) (v := ?_) rfl (by kernel_rfl) (by kernel_rfl) (by kernel_rfl) (fun _ _ _ h => h) (Or.inl ⟨by rfl, ?hy⟩) (by assumption) ?_
                case hy => intro w hSw; (try dsimp only at hSw); go_simp; try with_reducible rfl
                try simp only [Act.put, List.getElem_toArray, List.getElem_cons_succ, List.getElem_cons_zero, List.setIfInBounds_toArray, List.set_cons_zero, List.set_cons_succ]
                refine wpAnyH_ready (rs := [13]) (by kernel_rfl) (by simp) (AllReadyH.cons rfl (fun K hK => ?_) AllReadyH.nil)
                go_simp
                try (go_wp2_with fail)
                obtain ⟨wa9x16, hwa9x16⟩ : ∃ x, ws9x15.alloc (.cells #[.int .i64 0, .int .i64 0, .int .i64 0, .int .i64 0, .int .i64 0, .int .i64 0] 32) = x := ⟨_, rfl⟩
                have HAwa9x16 := Lib.hid (show Below ws9x15.heap.size ws9x15 wa9x16 from by rw [← hwa9x16]; exact (Below.refl _ _).alloc (Nat.le_refl _) _)
                have HNwa9x16 := Lib.hid (show wa9x16.heap[ws9x15.heap.size]? = some (.cells #[.int .i64 0, .int .i64 0, .int .i64 0, .int .i64 0, .int .i64 0, .int .i64 0] 32) from by rw [← hwa9x16]; exact new_blockS ws9x15 _)
                have HBwa9x16 := Lib.hid (HBws9x15.out.trans (HAwa9x16.out.mono HBws9x15.out.size))
                have HKwa9x16 := Lib.hid (HAwa9x16.out.block _ (Array.getElem?_eq_some_iff.1 HKws9x15.out).1 |>.trans HKws9x15.out)
                have HCwa9x16 := HNwa9x16
                have HG9 := Lib.hid (show wy.heap.size ≤ ws9x15.heap.size from HBws9x15.out.size)
                rw [hwa9x16]
                clear hwa9x16
                refine hK.out _ _ ?_ (fun hHeld => ?_)
                · exact HKA.out _ HBwa9x16.out
                clear hK K
                try simp only [Act.put, List.getElem_toArray, List.getElem_cons_succ, List.getElem_cons_zero, List.setIfInBounds_toArray, List.set_cons_zero, List.set_cons_succ]
                refine wpAnyH_ready (rs := [14]) (by kernel_rfl) (by simp) (AllReadyH.cons rfl (fun K hK => ?_) AllReadyH.nil)
                obtain ⟨⟨z0, z1, z2, z3, z4, z5⟩, zf⟩ := ct_cells (c := .zero) HCwa9x16.out
                dsimp only [CntS.zero] at z0 z1 z2 z3 z4 z5
                go_simp
                have HF9 := Lib.hid (fin_set HBwa9x16.out HG9.out HCwa9x16.out xp xb xd xe xr xm)
                refine hK.out _ _ ?_ (fun hHeld => ?_)
                · exact HKA.out _ HF9.out.2.2
                clear hK K
                try simp only [Act.put, List.getElem_toArray, List.getElem_cons_succ, List.getElem_cons_zero, List.setIfInBounds_toArray, List.set_cons_zero, List.set_cons_succ]
                refine wpAnyH_take (i := 15) (v := ?_) rfl (by kernel_rfl) (by kernel_rfl) (by kernel_rfl) (fun _ _ _ h => h) (Or.inl ⟨by rfl, ?hy⟩) (by assumption) ?_
                case hy => intro w hSw; (try dsimp only at hSw); go_simp; try with_reducible rfl
                try simp only [Act.put, List.getElem_toArray, List.getElem_cons_succ, List.getElem_cons_zero, List.setIfInBounds_toArray, List.set_cons_zero, List.set_cons_succ]
                refine wpAnyH_take (i := 16) (v := ?_) rfl (by kernel_rfl) (by kernel_rfl) (by kernel_rfl) (fun _ _ _ h => h) (Or.inl ⟨by rfl, ?hy⟩) (by assumption) ?_
                case hy => intro w hSw; (try dsimp only at hSw); go_simp; try with_reducible rfl
                try simp only [Act.put, List.getElem_toArray, List.getElem_cons_succ, List.getElem_cons_zero, List.setIfInBounds_toArray, List.set_cons_zero, List.set_cons_succ]
                refine wpAnyH_done (by kernel_rfl) ?_ _
                refine NoPanic.normal ?_
                try (go_wp2_with fail)
                go_meet
                exact ⟨_, rfl, rfl, rfl, HF9⟩
              · go_simp
                try (go_wp2_with fail)
                obtain ⟨wa9x18, hwa9x18⟩ : ∃ x, wa9x13.alloc (.cells #[.int .i64 0, .int .i64 0, .int .i64 0, .int .i64 0, .int .i64 0, .int .i64 0] 32) = x := ⟨_, rfl⟩
                have HAwa9x18 := Lib.hid (show Below wa9x13.heap.size wa9x13 wa9x18 from by rw [← hwa9x18]; exact (Below.refl _ _).alloc (Nat.le_refl _) _)
                have HNwa9x18 := Lib.hid (show wa9x18.heap[wa9x13.heap.size]? = some (.cells #[.int .i64 0, .int .i64 0, .int .i64 0, .int .i64 0, .int .i64 0, .int .i64 0] 32) from by rw [← hwa9x18]; exact new_blockS wa9x13 _)
                have HBwa9x18 := Lib.hid (HBwa9x13.out.trans (HAwa9x18.out.mono HBwa9x13.out.size))
                have HKwa9x18 := Lib.hid (HAwa9x18.out.block _ (Array.getElem?_eq_some_iff.1 HKwa9x13.out).1 |>.trans HKwa9x13.out)
                have HCwa9x18 := HNwa9x18
                have HG9 := Lib.hid (show wy.heap.size ≤ wa9x13.heap.size from HBwa9x13.out.size)
                rw [hwa9x18]
                clear hwa9x18
                refine hK.out _ _ ?_ (fun hHeld => ?_)
                · exact HKA.out _ HBwa9x18.out
                clear hK K
                try simp only [Act.put, List.getElem_toArray, List.getElem_cons_succ, List.getElem_cons_zero, List.setIfInBounds_toArray, List.set_cons_zero, List.set_cons_succ]
                refine wpAnyH_ready (rs := [8]) (by kernel_rfl) (by simp) (AllReadyH.cons rfl (fun K hK => ?_) AllReadyH.nil)
                go_simp
                go_at_call 10
                refine (HS9.out wa9x18 _ HBwa9x18.out HKwa9x18.out).mono ?_
                rintro e ws9x19 ⟨rfl, hby⟩
                have HBws9x19 := Lib.hid (HBwa9x18.out.trans (hby.mono HBwa9x18.out.size))
                have HKws9x19 := Lib.hid (hby.block _ (Array.getElem?_eq_some_iff.1 HKwa9x18.out).1 |>.trans HKwa9x18.out)
                have HCws9x19 := Lib.hid (hby.block _ (Array.getElem?_eq_some_iff.1 HCwa9x18.out).1 |>.trans HCwa9x18.out)
                clear hby
                try (go_wp2_with fail)
                refine hK.out _ _ ?_ (fun hHeld => ?_)
                · exact HKA.out _ HBws9x19.out
                clear hK K
                try simp only [Act.put, List.getElem_toArray, List.getElem_cons_succ, List.getElem_cons_zero, List.setIfInBounds_toArray, List.set_cons_zero, List.set_cons_succ]
                refine wpAnyH_take (i := 9) (v := ?_) rfl (by kernel_rfl) (by kernel_rfl) (by kernel_rfl) (fun _ _ _ h => h) (Or.inl ⟨by rfl, ?hy⟩) (by assumption) ?_
                case hy => intro w hSw; (try dsimp only at hSw); go_simp; try with_reducible rfl
                try simp only [Act.put, List.getElem_toArray, List.getElem_cons_succ, List.getElem_cons_zero, List.setIfInBounds_toArray, List.set_cons_zero, List.set_cons_succ]
                refine wpAnyH_take (i := 10) (v := ?_) rfl (by kernel_rfl) (by kernel_rfl) (by kernel_rfl) (fun _ _ _ h => h) (Or.inl ⟨by rfl, ?hy⟩) (by assumption) ?_
                case hy => intro w hSw; (try dsimp only at hSw); go_simp; try with_reducible rfl
                try simp only [Act.put, List.getElem_toArray, List.getElem_cons_succ, List.getElem_cons_zero, List.setIfInBounds_toArray, List.set_cons_zero, List.set_cons_succ]
                refine wpAnyH_take (i := 11) (v := ?_) rfl (by kernel_rfl) (by kernel_rfl) (by kernel_rfl) (fun _ _ _ h => h) (Or.inl ⟨by rfl, ?hy⟩) (by assumption) ?_
                case hy => intro w hSw; (try dsimp only at hSw); go_simp; try with_reducible rfl
                try simp only [Act.put, List.getElem_toArray, List.getElem_cons_succ, List.getElem_cons_zero, List.setIfInBounds_toArray, List.set_cons_zero, List.set_cons_succ]
                refine wpAnyH_take (i := 12) (v := ?_) rfl (by kernel_rfl) (by kernel_rfl) (by kernel_rfl) (fun _ _ _ h => h) (Or.inl ⟨by rfl, ?hy⟩) (by assumption) ?_
                case hy => intro w hSw; (try dsimp only at hSw); go_simp; try with_reducible rfl
                try simp only [Act.put, List.getElem_toArray, List.getElem_cons_succ, List.getElem_cons_zero, List.setIfInBounds_toArray, List.set_cons_zero, List.set_cons_succ]
                refine wpAnyH_ready (rs := [14]) (by kernel_rfl) (by simp) (AllReadyH.cons rfl (fun K hK => ?_) AllReadyH.nil)
                obtain ⟨⟨z0, z1, z2, z3, z4, z5⟩, zf⟩ := ct_cells (c := .zero) HCws9x19.out
                dsimp only [CntS.zero] at z0 z1 z2 z3 z4 z5
                go_simp
                have HF9 := Lib.hid (fin_set HBws9x19.out HG9.out HCws9x19.out xp xb xd xe xr xm)
                refine hK.out _ _ ?_ (fun hHeld => ?_)
                · exact HKA.out _ HF9.out.2.2
                clear hK K
                try simp only [Act.put, List.getElem_toArray, List.getElem_cons_succ, List.getElem_cons_zero, List.setIfInBounds_toArray, List.set_cons_zero, List.set_cons_succ]
                refine wpAnyH_take (i := 15) (v := ?_) rfl (by kernel_rfl) (by kernel_rfl) (by kernel_rfl) (fun _ _ _ h => h) (Or.inl ⟨by rfl, ?hy⟩) (by assumption) ?_
                case hy => intro w hSw; (try dsimp only at hSw); go_simp; try with_reducible rfl
                try simp only [Act.put, List.getElem_toArray, List.getElem_cons_succ, List.getElem_cons_zero, List.setIfInBounds_toArray, List.set_cons_zero, List.set_cons_succ]
                refine wpAnyH_take (i := 16) (v := ?_) rfl (by kernel_rfl) (by kernel_rfl) (by kernel_rfl) (fun _ _ _ h => h) (Or.inl ⟨by rfl, ?hy⟩) (by assumption) ?_
                case hy => intro w hSw; (try dsimp only at hSw); go_simp; try with_reducible rfl
                try simp only [Act.put, List.getElem_toArray, List.getElem_cons_succ, List.getElem_cons_zero, List.setIfInBounds_toArray, List.set_cons_zero, List.set_cons_succ]
                refine wpAnyH_done (by kernel_rfl) ?_ _
                refine NoPanic.normal ?_
                try (go_wp2_with fail)
                go_meet
                exact ⟨_, rfl, rfl, rfl, HF9⟩
            · go_simp
              try (go_wp2_with fail)
              obtain ⟨wa9x21, hwa9x21⟩ : ∃ x, wa9x13.alloc (.cells #[.int .i64 0, .int .i64 0, .int .i64 0, .int .i64 0, .int .i64 0, .int .i64 0] 32) = x := ⟨_, rfl⟩
              have HAwa9x21 := Lib.hid (show Below wa9x13.heap.size wa9x13 wa9x21 from by rw [← hwa9x21]; exact (Below.refl _ _).alloc (Nat.le_refl _) _)
              have HNwa9x21 := Lib.hid (show wa9x21.heap[wa9x13.heap.size]? = some (.cells #[.int .i64 0, .int .i64 0, .int .i64 0, .int .i64 0, .int .i64 0, .int .i64 0] 32) from by rw [← hwa9x21]; exact new_blockS wa9x13 _)
              have HBwa9x21 := Lib.hid (HBwa9x13.out.trans (HAwa9x21.out.mono HBwa9x13.out.size))
              have HKwa9x21 := Lib.hid (HAwa9x21.out.block _ (Array.getElem?_eq_some_iff.1 HKwa9x13.out).1 |>.trans HKwa9x13.out)
              have HCwa9x21 := HNwa9x21
              have HG9 := Lib.hid (show wy.heap.size ≤ wa9x13.heap.size from HBwa9x13.out.size)
              rw [hwa9x21]
              clear hwa9x21
              refine hK.out _ _ ?_ (fun hHeld => ?_)
              · exact HKA.out _ HBwa9x21.out
              clear hK K
              try simp only [Act.put, List.getElem_toArray, List.getElem_cons_succ, List.getElem_cons_zero, List.setIfInBounds_toArray, List.set_cons_zero, List.set_cons_succ]
              refine wpAnyH_ready (rs := [2]) (by kernel_rfl) (by simp) (AllReadyH.cons rfl (fun K hK => ?_) AllReadyH.nil)
              go_simp
              go_at_call 11
              refine (HL9.out wa9x21 HBwa9x21.out).mono ?_
              rintro e wl22 ⟨rfl, hq⟩
              rw [hq]
              clear hq
              try (go_wp2_with fail)
              refine hK.out _ _ ?_ (fun hHeld => ?_)
              · exact HKA.out _ HBwa9x21.out
              clear hK K
              try simp only [Act.put, List.getElem_toArray, List.getElem_cons_succ, List.getElem_cons_zero, List.setIfInBounds_toArray, List.set_cons_zero, List.set_cons_succ]
              refine wpAnyH_ready (rs := [8]) (by kernel_rfl) (by simp) (AllReadyH.cons rfl (fun K hK => ?_) AllReadyH.nil)
              go_simp
              go_at_call 10
              refine (HS9.out wa9x21 _ HBwa9x21.out HKwa9x21.out).mono ?_
              rintro e ws9x23 ⟨rfl, hby⟩
              have HBws9x23 := Lib.hid (HBwa9x21.out.trans (hby.mono HBwa9x21.out.size))
              have HKws9x23 := Lib.hid (hby.block _ (Array.getElem?_eq_some_iff.1 HKwa9x21.out).1 |>.trans HKwa9x21.out)
              have HCws9x23 := Lib.hid (hby.block _ (Array.getElem?_eq_some_iff.1 HCwa9x21.out).1 |>.trans HCwa9x21.out)
              clear hby
              try (go_wp2_with fail)
              refine hK.out _ _ ?_ (fun hHeld => ?_)
              · exact HKA.out _ HBws9x23.out
              clear hK K
              try simp only [Act.put, List.getElem_toArray, List.getElem_cons_succ, List.getElem_cons_zero, List.setIfInBounds_toArray, List.set_cons_zero, List.set_cons_succ]
              refine wpAnyH_take (i := 9) (v := ?_) rfl (by kernel_rfl) (by kernel_rfl) (by kernel_rfl) (fun _ _ _ h => h) (Or.inl ⟨by rfl, ?hy⟩) (by assumption) ?_
              case hy => intro w hSw; (try dsimp only at hSw); go_simp; try with_reducible rfl
              try simp only [Act.put, List.getElem_toArray, List.getElem_cons_succ, List.getElem_cons_zero, List.setIfInBounds_toArray, List.set_cons_zero, List.set_cons_succ]
              refine wpAnyH_take (i := 10) (v := ?_) rfl (by kernel_rfl) (by kernel_rfl) (by kernel_rfl) (fun _ _ _ h => h) (Or.inl ⟨by rfl, ?hy⟩) (by assumption) ?_
              case hy => intro w hSw; (try dsimp only at hSw); go_simp; try with_reducible rfl
              try simp only [Act.put, List.getElem_toArray, List.getElem_cons_succ, List.getElem_cons_zero, List.setIfInBounds_toArray, List.set_cons_zero, List.set_cons_succ]
              refine wpAnyH_take (i := 11) (v := ?_) rfl (by kernel_rfl) (by kernel_rfl) (by kernel_rfl) (fun _ _ _ h => h) (Or.inl ⟨by rfl, ?hy⟩) (by assumption) ?_
              case hy => intro w hSw; (try dsimp only at hSw); go_simp; try with_reducible rfl
              try simp only [Act.put, List.getElem_toArray, List.getElem_cons_succ, List.getElem_cons_zero, List.setIfInBounds_toArray, List.set_cons_zero, List.set_cons_succ]
              refine wpAnyH_take (i := 12) (v := ?_) rfl (by kernel_rfl) (by kernel_rfl) (by kernel_rfl) (fun _ _ _ h => h) (Or.inl ⟨by rfl, ?hy⟩) (by assumption) ?_
              case hy => intro w hSw; (try dsimp only at hSw); go_simp; try with_reducible rfl
              try simp only [Act.put, List.getElem_toArray, List.getElem_cons_succ, List.getElem_cons_zero, List.setIfInBounds_toArray, List.set_cons_zero, List.set_cons_succ]
              refine wpAnyH_ready (rs := [14]) (by kernel_rfl) (by simp) (AllReadyH.cons rfl (fun K hK => ?_) AllReadyH.nil)
              obtain ⟨⟨z0, z1, z2, z3, z4, z5⟩, zf⟩ := ct_cells (c := .zero) HCws9x23.out
              dsimp only [CntS.zero] at z0 z1 z2 z3 z4 z5
              go_simp
              have HF9 := Lib.hid (fin_set HBws9x23.out HG9.out HCws9x23.out xp xb xd xe xr xm)
              refine hK.out _ _ ?_ (fun hHeld => ?_)
              · exact HKA.out _ HF9.out.2.2
              clear hK K
              try simp only [Act.put, List.getElem_toArray, List.getElem_cons_succ, List.getElem_cons_zero, List.setIfInBounds_toArray, List.set_cons_zero, List.set_cons_succ]
              refine wpAnyH_take (i := 15) (v := ?_) rfl (by kernel_rfl) (by kernel_rfl) (by kernel_rfl) (fun _ _ _ h => h) (Or.inl ⟨by rfl, ?hy⟩) (by assumption) ?_
              case hy => intro w hSw; (try dsimp only at hSw); go_simp; try with_reducible rfl
              try simp only [Act.put, List.getElem_toArray, List.getElem_cons_succ, List.getElem_cons_zero, List.setIfInBounds_toArray, List.set_cons_zero, List.set_cons_succ]
              refine wpAnyH_take (i := 16) (v := ?_) rfl (by kernel_rfl) (by kernel_rfl) (by kernel_rfl) (fun _ _ _ h => h) (Or.inl ⟨by rfl, ?hy⟩) (by assumption) ?_
              case hy => intro w hSw; (try dsimp only at hSw); go_simp; try with_reducible rfl
              try simp only [Act.put, List.getElem_toArray, List.getElem_cons_succ, List.getElem_cons_zero, List.setIfInBounds_toArray, List.set_cons_zero, List.set_cons_succ]
              refine wpAnyH_done (by kernel_rfl) ?_ _
              refine NoPanic.normal ?_
              try (go_wp2_with fail)
              go_meet
              exact ⟨_, rfl, rfl, rfl, HF9⟩
          · go_simp
            try (go_wp2_with fail)
            obtain ⟨wa9x25, hwa9x25⟩ : ∃ x, wd9.alloc (.cells #[.int .i64 0, .int .i64 0, .int .i64 0, .int .i64 0, .int .i64 0, .int .i64 0] 32) = x := ⟨_, rfl⟩
            have HAwa9x25 := Lib.hid (show Below wd9.heap.size wd9 wa9x25 from by rw [← hwa9x25]; exact (Below.refl _ _).alloc (Nat.le_refl _) _)
            have HNwa9x25 := Lib.hid (show wa9x25.heap[wd9.heap.size]? = some (.cells #[.int .i64 0, .int .i64 0, .int .i64 0, .int .i64 0, .int .i64 0, .int .i64 0] 32) from by rw [← hwa9x25]; exact new_blockS wd9 _)
            have HBwa9x25 := Lib.hid (HBwd9.out.trans (HAwa9x25.out.mono HBwd9.out.size))
            have HCwa9x25 := HNwa9x25
            have HG9 := Lib.hid (show wy.heap.size ≤ wd9.heap.size from HBwd9.out.size)
            rw [hwa9x25]
            clear hwa9x25
            refine hK.out _ _ ?_ (fun hHeld => ?_)
            · exact HKA.out _ HBwa9x25.out
            clear hK K
            try simp only [Act.put, List.getElem_toArray, List.getElem_cons_succ, List.getElem_cons_zero, List.setIfInBounds_toArray, List.set_cons_zero, List.set_cons_succ]
            refine wpAnyH_ready (rs := [2, 7]) (by kernel_rfl) (by simp) (AllReadyH.cons rfl (fun K hK => ?_) (AllReadyH.cons rfl (fun K hK => ?_) AllReadyH.nil))
            · go_simp
              go_at_call 11
              refine (HL9.out wa9x25 HBwa9x25.out).mono ?_
              rintro e wl26 ⟨rfl, hq⟩
              rw [hq]
              clear hq
              try (go_wp2_with fail)
              refine hK.out _ _ ?_ (fun hHeld => ?_)
              · exact HKA.out _ HBwa9x25.out
              clear hK K
              try simp only [Act.put, List.getElem_toArray, List.getElem_cons_succ, List.getElem_cons_zero, List.setIfInBounds_toArray, List.set_cons_zero, List.set_cons_succ]
              refine wpAnyH_ready (rs := [7]) (by kernel_rfl) (by simp) (AllReadyH.cons rfl (fun K hK => ?_) AllReadyH.nil)
              go_simp
              try (go_wp2_with fail)
              obtain ⟨wa9x27, hwa9x27⟩ : ∃ x, wa9x25.alloc (.cells #[.int .u8 4, .string qctx, .string qres, .string qorg] 30) = x := ⟨_, rfl⟩
              have HAwa9x27 := Lib.hid (show Below wa9x25.heap.size wa9x25 wa9x27 from by rw [← hwa9x27]; exact (Below.refl _ _).alloc (Nat.le_refl _) _)
              have HNwa9x27 := Lib.hid (show wa9x27.heap[wa9x25.heap.size]? = some (.cells #[.int .u8 4, .string qctx, .string qres, .string qorg] 30) from by rw [← hwa9x27]; exact new_blockS wa9x25 _)
              have HBwa9x27 := Lib.hid (HBwa9x25.out.trans (HAwa9x27.out.mono HBwa9x25.out.size))
              have HCwa9x27 := Lib.hid (HAwa9x27.out.block _ (Array.getElem?_eq_some_iff.1 HCwa9x25.out).1 |>.trans HCwa9x25.out)
              have HKwa9x27 := HNwa9x27
              rw [hwa9x27]
              clear hwa9x27
              refine hK.out _ _ ?_ (fun hHeld => ?_)
              · exact HKA.out _ HBwa9x27.out
              clear hK K
              try simp only [Act.put, List.getElem_toArray, List.getElem_cons_succ, List.getElem_cons_zero, List.setIfInBounds_toArray, List.set_cons_zero, List.set_cons_succ]
              refine wpAnyH_ready (rs := [8]) (by kernel_rfl) (by simp) (AllReadyH.cons rfl (fun K hK => ?_) AllReadyH.nil)
              go_simp
              go_at_call 10
              refine (HS9.out wa9x27 _ HBwa9x27.out HKwa9x27.out).mono ?_
              rintro e ws9x28 ⟨rfl, hby⟩
              have HBws9x28 := Lib.hid (HBwa9x27.out.trans (hby.mono HBwa9x27.out.size))
              have HKws9x28 := Lib.hid (hby.block _ (Array.getElem?_eq_some_iff.1 HKwa9x27.out).1 |>.trans HKwa9x27.out)
              have HCws9x28 := Lib.hid (hby.block _ (Array.getElem?_eq_some_iff.1 HCwa9x27.out).1 |>.trans HCwa9x27.out)
              clear hby
              try (go_wp2_with fail)
              refine hK.out _ _ ?_ (fun hHeld => ?_)
              · exact HKA.out _ HBws9x28.out
              clear hK K
              try simp only [Act.put, List.getElem_toArray, List.getElem_cons_succ, List.getElem_cons_zero, List.setIfInBounds_toArray, List.set_cons_zero, List.set_cons_succ]
              refine wpAnyH_take (i := 9) (v := ?_) rfl (by kernel_rfl) (by kernel_rfl) (by kernel_rfl) (fun _ _ _ h => h) (Or.inl ⟨by rfl, ?hy⟩) (by assumption) ?_
              case hy => intro w hSw; (try dsimp only at hSw); go_simp; try with_reducible rfl
              try simp only [Act.put, List.getElem_toArray, List.getElem_cons_succ, List.getElem_cons_zero, List.setIfInBounds_toArray, List.set_cons_zero, List.set_cons_succ]
              refine wpAnyH_take (i := 10) (v := ?_) rfl (by kernel_rfl) (by kernel_rfl) (by kernel_rfl) (fun _ _ _ h => h) (Or.inl ⟨by rfl, ?hy⟩) (by assumption) ?_
              case hy => intro w hSw; (try dsimp only at hSw); go_simp; try with_reducible rfl
              try simp only [Act.put, List.getElem_toArray, List.getElem_cons_succ, List.getElem_cons_zero, List.setIfInBounds_toArray, List.set_cons_zero, List.set_cons_succ]
              refine wpAnyH_take (i := 11) (v := ?_) rfl (by kernel_rfl) (by kernel_rfl) (by kernel_rfl) (fun _ _ _ h => h) (Or.inl ⟨by rfl, ?hy⟩) (by assumption) ?_
              case hy => intro w hSw; (try dsimp only at hSw); go_simp; try with_reducible rfl
              try simp only [Act.put, List.getElem_toArray, List.getElem_cons_succ, List.getElem_cons_zero, List.setIfInBounds_toArray, List.set_cons_zero, List.set_cons_succ]
              refine wpAnyH_take (i := 12) (v := ?_) rfl (by kernel_rfl) (by kernel_rfl) (by kernel_rfl) (fun _ _ _ h => h) (Or.inl ⟨by rfl, ?hy⟩) (by assumption) ?_
              case hy => intro w hSw; (try dsimp only at hSw); go_simp; try with_reducible rfl
              try simp only [Act.put, List.getElem_toArray, List.getElem_cons_succ, List.getElem_cons_zero, List.setIfInBounds_toArray, List.set_cons_zero, List.set_cons_succ]
              refine wpAnyH_ready (rs := [14]) (by kernel_rfl) (by simp) (AllReadyH.cons rfl (fun K hK => ?_) AllReadyH.nil)
              obtain ⟨⟨z0, z1, z2, z3, z4, z5⟩, zf⟩ := ct_cells (c := .zero) HCws9x28.out
              dsimp only [CntS.zero] at z0 z1 z2 z3 z4 z5
              go_simp
              have HF9 := Lib.hid (fin_set HBws9x28.out HG9.out HCws9x28.out xp xb xd xe xr xm)
              refine hK.out _ _ ?_ (fun hHeld => ?_)
              · exact HKA.out _ HF9.out.2.2
              clear hK K
              try simp only [Act.put, List.getElem_toArray, List.getElem_cons_succ, List.getElem_cons_zero, List.setIfInBounds_toArray, List.set_cons_zero, List.set_cons_succ]
              refine wpAnyH_take (i := 15) (v := ?_) rfl (by kernel_rfl) (by kernel_rfl) (by kernel_rfl) (fun _ _ _ h => h) (Or.inl ⟨by rfl, ?hy⟩) (by assumption) ?_
              case hy => intro w hSw; (try dsimp only at hSw); go_simp; try with_reducible rfl
              try simp only [Act.put, List.getElem_toArray, List.getElem_cons_succ, List.getElem_cons_zero, List.setIfInBounds_toArray, List.set_cons_zero, List.set_cons_succ]
              refine wpAnyH_take (i := 16) (v := ?_) rfl (by kernel_rfl) (by kernel_rfl) (by kernel_rfl) (fun _ _ _ h => h) (Or.inl ⟨by rfl, ?hy⟩) (by assumption) ?_
              case hy => intro w hSw; (try dsimp only at hSw); go_simp; try with_reducible rfl
              try simp only [Act.put, List.getElem_toArray, List.getElem_cons_succ, List.getElem_cons_zero, List.setIfInBounds_toArray, List.set_cons_zero, List.set_cons_succ]
              refine wpAnyH_done (by kernel_rfl) ?_ _
              refine NoPanic.normal ?_
              try (go_wp2_with fail)
              go_meet
              exact ⟨_, rfl, rfl, rfl, HF9⟩
            · go_simp
              try (go_wp2_with fail)
              obtain ⟨wa9x30, hwa9x30⟩ : ∃ x, wa9x25.alloc (.cells #[.int .u8 4, .string qctx, .string qres, .string qorg] 30) = x := ⟨_, rfl⟩
              have HAwa9x30 := Lib.hid (show Below wa9x25.heap.size wa9x25 wa9x30 from by rw [← hwa9x30]; exact (Below.refl _ _).alloc (Nat.le_refl _) _)
              have HNwa9x30 := Lib.hid (show wa9x30.heap[wa9x25.heap.size]? = some (.cells #[.int .u8 4, .string qctx, .string qres, .string qorg] 30) from by rw [← hwa9x30]; exact new_blockS wa9x25 _)
              have HBwa9x30 := Lib.hid (HBwa9x25.out.trans (HAwa9x30.out.mono HBwa9x25.out.size))
              have HCwa9x30 := Lib.hid (HAwa9x30.out.block _ (Array.getElem?_eq_some_iff.1 HCwa9x25.out).1 |>.trans HCwa9x25.out)
              have HKwa9x30 := HNwa9x30
              rw [hwa9x30]
              clear hwa9x30
              refine hK.out _ _ ?_ (fun hHeld => ?_)
              · exact HKA.out _ HBwa9x30.out
              clear hK K
              try simp only [Act.put, List.getElem_toArray, List.getElem_cons_succ, List.getElem_cons_zero, List.setIfInBounds_toArray, List.set_cons_zero, List.set_cons_succ]
              refine wpAnyH_ready (rs := [2]) (by kernel_rfl) (by simp) (AllReadyH.cons rfl (fun K hK => ?_) AllReadyH.nil)
              go_simp
              go_at_call 11
              refine (HL9.out wa9x30 HBwa9x30.out).mono ?_
              rintro e wl31 ⟨rfl, hq⟩
              rw [hq]
              clear hq
              try (go_wp2_with fail)
              refine hK.out _ _ ?_ (fun hHeld => ?_)
              · exact HKA.out _ HBwa9x30.out
              clear hK K
              try simp only [Act.put, List.getElem_toArray, List.getElem_cons_succ, List.getElem_cons_zero, List.setIfInBounds_toArray, List.set_cons_zero, List.set_cons_succ]
              refine wpAnyH_ready (rs := [8]) (by kernel_rfl) (by simp) (AllReadyH.cons rfl (fun K hK => ?_) AllReadyH.nil)
              go_simp
              go_at_call 10
              refine (HS9.out wa9x30 _ HBwa9x30.out HKwa9x30.out).mono ?_
              rintro e ws9x32 ⟨rfl, hby⟩
              have HBws9x32 := Lib.hid (HBwa9x30.out.trans (hby.mono HBwa9x30.out.size))
              have HKws9x32 := Lib.hid (hby.block _ (Array.getElem?_eq_some_iff.1 HKwa9x30.out).1 |>.trans HKwa9x30.out)
              have HCws9x32 := Lib.hid (hby.block _ (Array.getElem?_eq_some_iff.1 HCwa9x30.out).1 |>.trans HCwa9x30.out)
              clear hby
              try (go_wp2_with fail)
              refine hK.out _ _ ?_ (fun hHeld => ?_)
              · exact HKA.out _ HBws9x32.out
              clear hK K
              try simp only [Act.put, List.getElem_toArray, List.getElem_cons_succ, List.getElem_cons_zero, List.setIfInBounds_toArray, List.set_cons_zero, List.set_cons_succ]
              refine wpAnyH_take (i := 9) (v := ?_) rfl (by kernel_rfl) (by kernel_rfl) (by kernel_rfl) (fun _ _ _ h => h) (Or.inl ⟨by rfl, ?hy⟩) (by assumption) ?_
              case hy => intro w hSw; (try dsimp only at hSw); go_simp; try with_reducible rfl
              try simp only [Act.put, List.getElem_toArray, List.getElem_cons_succ, List.getElem_cons_zero, List.setIfInBounds_toArray, List.set_cons_zero, List.set_cons_succ]
              refine wpAnyH_take (i := 10) (v := ?_) rfl (by kernel_rfl) (by kernel_rfl) (by kernel_rfl) (fun _ _ _ h => h) (Or.inl ⟨by rfl, ?hy⟩) (by assumption) ?_
              case hy => intro w hSw; (try dsimp only at hSw); go_simp; try with_reducible rfl
              try simp only [Act.put, List.getElem_toArray, List.getElem_cons_succ, List.getElem_cons_zero, List.setIfInBounds_toArray, List.set_cons_zero, List.set_cons_succ]
              refine wpAnyH_take (i := 11) (v := ?_) rfl (by kernel_rfl) (by kernel_rfl) (by kernel_rfl) (fun _ _ _ h => h) (Or.inl ⟨by rfl, ?hy⟩) (by assumption) ?_
              case hy => intro w hSw; (try dsimp only at hSw); go_simp; try with_reducible rfl
              try simp only [Act.put, List.getElem_toArray, List.getElem_cons_succ, List.getElem_cons_zero, List.setIfInBounds_toArray, List.set_cons_zero, List.set_cons_succ]
              refine wpAnyH_take (i := 12) (v := ?_) rfl (by kernel_rfl) (by kernel_rfl) (by kernel_rfl) (fun _ _ _ h => h) (Or.inl ⟨by rfl, ?hy⟩) (by assumption) ?_
              case hy => intro w hSw; (try dsimp only at hSw); go_simp; try with_reducible rfl
              try simp only [Act.put, List.getElem_toArray, List.getElem_cons_succ, List.getElem_cons_zero, List.setIfInBounds_toArray, List.set_cons_zero, List.set_cons_succ]
              refine wpAnyH_ready (rs := [14]) (by kernel_rfl) (by simp) (AllReadyH.cons rfl (fun K hK => ?_) AllReadyH.nil)
              obtain ⟨⟨z0, z1, z2, z3, z4, z5⟩, zf⟩ := ct_cells (c := .zero) HCws9x32.out
              dsimp only [CntS.zero] at z0 z1 z2 z3 z4 z5
              go_simp
              have HF9 := Lib.hid (fin_set HBws9x32.out HG9.out HCws9x32.out xp xb xd xe xr xm)
              refine hK.out _ _ ?_ (fun hHeld => ?_)
              · exact HKA.out _ HF9.out.2.2
              clear hK K
              try simp only [Act.put, List.getElem_toArray, List.getElem_cons_succ, List.getElem_cons_zero, List.setIfInBounds_toArray, List.set_cons_zero, List.set_cons_succ]
              refine wpAnyH_take (i := 15) (v := ?_) rfl (by kernel_rfl) (by kernel_rfl) (by kernel_rfl) (fun _ _ _ h => h) (Or.inl ⟨by rfl, ?hy⟩) (by assumption) ?_
              case hy => intro w hSw; (try dsimp only at hSw); go_simp; try with_reducible rfl
              try simp only [Act.put, List.getElem_toArray, List.getElem_cons_succ, List.getElem_cons_zero, List.setIfInBounds_toArray, List.set_cons_zero, List.set_cons_succ]
              refine wpAnyH_take (i := 16) (v := ?_) rfl (by kernel_rfl) (by kernel_rfl) (by kernel_rfl) (fun _ _ _ h => h) (Or.inl ⟨by rfl, ?hy⟩) (by assumption) ?_
              case hy => intro w hSw; (try dsimp only at hSw); go_simp; try with_reducible rfl
              try simp only [Act.put, List.getElem_toArray, List.getElem_cons_succ, List.getElem_cons_zero, List.setIfInBounds_toArray, List.set_cons_zero, List.set_cons_succ]
              refine wpAnyH_done (by kernel_rfl) ?_ _
              refine NoPanic.normal ?_
              try (go_wp2_with fail)
              go_meet
              exact ⟨_, rfl, rfl, rfl, HF9⟩
        case rest =>
          obtain ⟨B1, rfl, rfl, rfl, HC1⟩ := hcut
          obtain ⟨w6, hw6⟩ : ∃ x, x = wc := ⟨_, rfl⟩
          rw [← hw6] at HC1
          simp only [← hw6]
          clear hw6 HL9 HS9 d0 d1 d2 d3
          have HT6 := Lib.hid (HTY.out.below HC1.out.2.2)
          have HKA6 := Lib.hid (fun (wx : World) (hx : Below w6.heap.size w6 wx) => HKA.out wx (HC1.out.2.2.trans (hx.mono HC1.out.2.2.size)))
          obtain ⟨d0, d1, d2, d3⟩ := HKA6.out w6 (Below.refl _ _)
          have HL10 := Lib.hid (fun (wx : World) (hx : Below w6.heap.size w6 wx) => tres_last (HT6.out.below hx) ht)
          have HOF10 := Lib.hid (fun (wx : World) (hx : Below w6.heap.size w6 wx) => tres_of (HT6.out.below hx) ht 3 qres nO HNO2.out)
          have HS10 := Lib.hid (fun (wx : World) (a c) (hx : Below w6.heap.size w6 wx) (hk : KeysAt wx a LO) => tres_suml (HT6.out.below hx) ht a nO c LO HNO.out HFEW.out hk HIN.out)
          have HBw60 := Lib.hid (show Below w6.heap.size w6 w6.drew from (Below.refl _ _).drew)
          rw [HCL.out.1, HCL.out.2] at HS10
          rw [HLO.out] at HOF10
          unfold ctV at HS10
          dsimp only at HS10
          go_upto_region 10 with (fail)
          go_cut [9, 10, 11] from 30 to 85 (fun x y z wx => ∃ B, x = .pointer (some ⟨B, 0, none⟩) ∧ y = .int .i64 FL ∧ z = .int .i64 0 ∧ Hid (w6.heap.size ≤ B ∧ wx.heap[B]? = some (.cells #[.int .i64 xp, .int .i64 xb, .int .i64 xd, .int .i64 xe, .int .i64 xr, .int .i64 xm] 32) ∧ Below w6.heap.size w6 wx))
          case first =>
            refine wp_region_noPanic ?_
            refine wp_region_held_drew (S := (fun wx => wx.cell? ⟨g2, i * 4, none⟩ = some (.int .u8 4) ∧ wx.cell? ⟨g2, i * 4 + 1, none⟩ = some (.string qctx) ∧ wx.cell? ⟨g2, i * 4 + 2, none⟩ = some (.string qres) ∧ wx.cell? ⟨g2, i * 4 + 3, none⟩ = some (.string qorg))) (by kernel_rfl) ?_ (fun hHeld => ?_)
            · exact HKA6.out _ HBw60.out
            refine wpAnyH_take (i := 0) (v := ?_) rfl (by kernel_rfl) (by kernel_rfl) (by kernel_rfl) (fun _ _ _ h => h) (Or.inl ⟨by rfl, ?hy⟩) (by assumption) ?_
            case hy => intro w hSw; (try dsimp only at hSw); go_simp; try with_reducible rfl
            try simp only [Act.put, List.getElem_toArray, List.getElem_cons_succ, List.getElem_cons_zero, List.setIfInBounds_toArray, List.set_cons_zero, List.set_cons_succ]
            refine wpAnyH_take (i := 1) (v := ?_) rfl (by kernel_rfl) (by kernel_rfl) (by kernel_rfl) (fun _ _ _ h => h) (Or.inl ⟨by rfl, ?hy⟩) (by assumption) ?_
            case hy => intro w hSw; (try dsimp only at hSw); go_simp; try with_reducible rfl
            try simp only [Act.put, List.getElem_toArray, List.getElem_cons_succ, List.getElem_cons_zero, List.setIfInBounds_toArray, List.set_cons_zero, List.set_cons_succ]
            refine wpAnyH_take (i := 3) (v := ?_) rfl (by kernel_rfl) (by kernel_rfl) (by kernel_rfl) (fun _ _ _ h => h) (Or.inl ⟨by rfl, ?hy⟩) (by assumption) ?_
            case hy => intro w hSw; (try dsimp only at hSw); go_simp; try with_reducible rfl
            try simp only [Act.put, List.getElem_toArray, List.getElem_cons_succ, List.getElem_cons_zero, List.setIfInBounds_toArray, List.set_cons_zero, List.set_cons_succ]
            refine wpAnyH_take (i := 4) (v := ?_) rfl (by kernel_rfl) (by kernel_rfl) (by kernel_rfl) (fun _ _ _ h => h) (Or.inl ⟨by rfl, ?hy⟩) (by assumption) ?_
            case hy => intro w hSw; (try dsimp only at hSw); go_simp; try with_reducible rfl
            try simp only [Act.put, List.getElem_toArray, List.getElem_cons_succ, List.getElem_cons_zero, List.setIfInBounds_toArray, List.set_cons_zero, List.set_cons_succ]
            refine wpAnyH_take (i := 5) (v := ?_) rfl (by kernel_rfl) (by kernel_rfl) (by kernel_rfl) (fun _ _ _ h => h) (Or.inl ⟨by rfl, ?hy⟩) (by assumption) ?_
            case hy => intro w hSw; (try dsimp only at hSw); go_simp; try with_reducible rfl
            try simp only [Act.put, List.getElem_toArray, List.getElem_cons_succ, List.getElem_cons_zero, List.setIfInBounds_toArray, List.set_cons_zero, List.set_cons_succ]
            refine wpAnyH_take (i := 6) (v := ?_) rfl (by kernel_rfl) (by kernel_rfl) (by kernel_rfl) (fun _ _ _ h => h) (Or.inl ⟨by rfl, ?hy⟩) (by assumption) ?_
            case hy => intro w hSw; (try dsimp only at hSw); go_simp; try with_reducible rfl
            try simp only [Act.put, List.getElem_toArray, List.getElem_cons_succ, List.getElem_cons_zero, List.setIfInBounds_toArray, List.set_cons_zero, List.set_cons_succ]
            refine wpAnyH_take (i := 7) (v := ?_) rfl (by kernel_rfl) (by kernel_rfl) (by kernel_rfl) (fun _ _ _ h => h) (Or.inl ⟨by rfl, ?hy⟩) (by assumption) ?_
            case hy => intro w hSw; (try dsimp only at hSw); go_simp; try with_reducible rfl
            try simp only [Act.put, List.getElem_toArray, List.getElem_cons_succ, List.getElem_cons_zero, List.setIfInBounds_toArray, List.set_cons_zero, List.set_cons_succ]
            refine wpAnyH_take (i := 8) (v := ?_) rfl (by kernel_rfl) (by kernel_rfl) (by kernel_rfl) (fun _ _ _ h => h) (Or.inl ⟨by rfl, ?hy⟩) (by assumption) ?_
            case hy => intro w hSw; (try dsimp only at hSw); go_simp; try with_reducible rfl
            try simp only [Act.put, List.getElem_toArray, List.getElem_cons_succ, List.getElem_cons_zero, List.setIfInBounds_toArray, List.set_cons_zero, List.set_cons_succ]
            obtain ⟨wd10, hwd10⟩ : ∃ x, w6.drew = x := ⟨_, rfl⟩
            have HBwd10 := Lib.hid (show Below w6.heap.size w6 wd10 from by rw [← hwd10]; exact (Below.refl _ _).drew)
            simp only [hwd10] at hHeld ⊢
            clear hwd10
            refine wpAnyH_ready (rs := [2, 15]) (by kernel_rfl) (by simp) (AllReadyH.cons rfl (fun K hK => ?_) (AllReadyH.cons rfl (fun K hK => ?_) AllReadyH.nil))
            · go_simp
              go_at_call 11
              refine (HL10.out wd10 HBwd10.out).mono ?_
              rintro e wl1 ⟨rfl, hq⟩
              rw [hq]
              clear hq
              try (go_wp2_with fail)
              refine hK.out _ _ ?_ (fun hHeld => ?_)
              · exact HKA6.out _ HBwd10.out
              clear hK K
              try simp only [Act.put, List.getElem_toArray, List.getElem_cons_succ, List.getElem_cons_zero, List.setIfInBounds_toArray, List.set_cons_zero, List.set_cons_succ]
              refine wpAnyH_ready (rs := [9, 15]) (by kernel_rfl) (by simp) (AllReadyH.cons rfl (fun K hK => ?_) (AllReadyH.cons rfl (fun K hK => ?_) AllReadyH.nil))
              · go_simp
                go_at_call 12
                refine (HOF10.out wd10 HBwd10.out).mono ?_
                rintro e wo10x2 ⟨ao2, co2, rfl, hk, hby⟩
                have HBwo10x2 := Lib.hid (HBwd10.out.trans (hby.mono HBwd10.out.size))
                have HOwo10x2 := Lib.hid hk
                clear hby hk
                try (go_wp2_with fail)
                refine hK.out _ _ ?_ (fun hHeld => ?_)
                · exact HKA6.out _ HBwo10x2.out
                clear hK K
                try simp only [Act.put, List.getElem_toArray, List.getElem_cons_succ, List.getElem_cons_zero, List.setIfInBounds_toArray, List.set_cons_zero, List.set_cons_succ]
                refine wpAnyH_ready (rs := [10, 15]) (by kernel_rfl) (by simp) (AllReadyH.cons rfl (fun K hK => ?_) (AllReadyH.cons rfl (fun K hK => ?_) AllReadyH.nil))
                · go_simp
                  go_at_call 10
                  refine (HS10.out wo10x2 _ _ HBwo10x2.out HOwo10x2.out).mono ?_
                  rintro e ws10x3 ⟨rfl, hby⟩
                  have HBws10x3 := Lib.hid (HBwo10x2.out.trans (hby.mono HBwo10x2.out.size))
                  have HOws10x3 := Lib.hid (HOwo10x2.out.below hby)
                  clear hby
                  try (go_wp2_with fail)
                  refine hK.out _ _ ?_ (fun hHeld => ?_)
                  · exact HKA6.out _ HBws10x3.out
                  clear hK K
                  try simp only [Act.put, List.getElem_toArray, List.getElem_cons_succ, List.getElem_cons_zero, List.setIfInBounds_toArray, List.set_cons_zero, List.set_cons_succ]
                  refine wpAnyH_take (i := 11) (v := ?_) rfl (by kernel_rfl) (by kernel_rfl) (by kernel_rfl) (fun _ _ _ h => h) (Or.inl ⟨by rfl, ?hy⟩) (by assumption) ?_
                  case hy => intro w hSw; (try dsimp only at hSw); go_simp; try with_reducible rfl
                  try simp only [Act.put, List.getElem_toArray, List.getElem_cons_succ, List.getElem_cons_zero, List.setIfInBounds_toArray, List.set_cons_zero, List.set_cons_succ]
                  refine wpAnyH_take (i := 12) (v := ?_) rfl (by kernel_rfl) (by kernel_rfl) (by kernel_rfl) (fun _ _ _ h => h) (Or.inl ⟨by rfl, ?hy⟩) (by assumption) ?_
                  case hy => intro w hSw; (try dsimp only at hSw); go_simp; try with_reducible rfl
                  try simp only [Act.put, List.getElem_toArray, List.getElem_cons_succ, List.getElem_cons_zero, List.setIfInBounds_toArray, List.set_cons_zero, List.set_cons_succ]
                  refine wpAnyH_take (i := 13) (v := ?_) rfl (by kernel_rfl) (by kernel_rfl) (by kernel_rfl) (fun _ _ _ h => h) (Or.inl ⟨by rfl, ?hy⟩) (by assumption) ?_
                  case hy => intro w hSw; (try dsimp only at hSw); go_simp; try with_reducible rfl
                  try simp only [Act.put, List.getElem_toArray, List.getElem_cons_succ, List.getElem_cons_zero, List.setIfInBounds_toArray, List.set_cons_zero, List.set_cons_succ]
                  refine wpAnyH_take (i := 14) (v := ?_) rfl (by kernel_rfl) (by kernel_rfl) (by kernel_rfl) (fun _ _ _ h => h) (Or.inl ⟨by rfl, ?hy⟩) (by assumption) ?_
                  case hy => intro w hSw; (try dsimp only at hSw); go_simp; try with_reducible rfl
                  try simp only [Act.put, List.getElem_toArray, List.getElem_cons_succ, List.getElem_cons_zero, List.setIfInBounds_toArray, List.set_cons_zero, List.set_cons_succ]
                  refine wpAnyH_ready (rs := [15]) (by kernel_rfl) (by simp) (AllReadyH.cons rfl (fun K hK => ?_) AllReadyH.nil)
                  go_simp
                  try (go_wp2_with fail)
                  obtain ⟨wa10x4, hwa10x4⟩ : ∃ x, ws10x3.alloc (.cells #[.int .i64 0, .int .i64 0, .int .i64 0, .int .i64 0, .int .i64 0, .int .i64 0] 32) = x := ⟨_, rfl⟩
                  have HAwa10x4 := Lib.hid (show Below ws10x3.heap.size ws10x3 wa10x4 from by rw [← hwa10x4]; exact (Below.refl _ _).alloc (Nat.le_refl _) _)
                  have HNwa10x4 := Lib.hid (show wa10x4.heap[ws10x3.heap.size]? = some (.cells #[.int .i64 0, .int .i64 0, .int .i64 0, .int .i64 0, .int .i64 0, .int .i64 0] 32) from by rw [← hwa10x4]; exact new_blockS ws10x3 _)
                  have HBwa10x4 := Lib.hid (HBws10x3.out.trans (HAwa10x4.out.mono HBws10x3.out.size))
                  have HOwa10x4 := Lib.hid (HOws10x3.out.below HAwa10x4.out)
                  have HCwa10x4 := HNwa10x4
                  have HG10 := Lib.hid (show w6.heap.size ≤ ws10x3.heap.size from HBws10x3.out.size)
                  rw [hwa10x4]
                  clear hwa10x4
                  refine hK.out _ _ ?_ (fun hHeld => ?_)
                  · exact HKA6.out _ HBwa10x4.out
                  clear hK K
                  try simp only [Act.put, List.getElem_toArray, List.getElem_cons_succ, List.getElem_cons_zero, List.setIfInBounds_toArray, List.set_cons_zero, List.set_cons_succ]
                  refine wpAnyH_ready (rs := [16]) (by kernel_rfl) (by simp) (AllReadyH.cons rfl (fun K hK => ?_) AllReadyH.nil)
                  obtain ⟨⟨z0, z1, z2, z3, z4, z5⟩, zf⟩ := ct_cells (c := .zero) HCwa10x4.out
                  dsimp only [CntS.zero] at z0 z1 z2 z3 z4 z5
                  go_simp
                  have HF10 := Lib.hid (fin_set HBwa10x4.out HG10.out HCwa10x4.out xp xb xd xe xr xm)
                  refine hK.out _ _ ?_ (fun hHeld => ?_)
                  · exact HKA6.out _ HF10.out.2.2
                  clear hK K
                  try simp only [Act.put, List.getElem_toArray, List.getElem_cons_succ, List.getElem_cons_zero, List.setIfInBounds_toArray, List.set_cons_zero, List.set_cons_succ]
                  refine wpAnyH_take (i := 17) (v := ?_) rfl (by kernel_rfl) (by kernel_rfl) (by kernel_rfl) (fun _ _ _ h => h) (Or.inl ⟨by rfl, ?hy⟩) (by assumption) ?_
                  case hy => intro w hSw; (try dsimp only at hSw); go_simp; try with_reducible rfl
                  try simp only [Act.put, List.getElem_toArray, List.getElem_cons_succ, List.getElem_cons_zero, List.setIfInBounds_toArray, List.set_cons_zero, List.set_cons_succ]
                  refine wpAnyH_take (i := 18) (v := ?_) rfl (by kernel_rfl) (by kernel_rfl) (by kernel_rfl) (fun _ _ _ h => h) (Or.inl ⟨by rfl, ?hy⟩) (by assumption) ?_
                  case hy => intro w hSw; (try dsimp only at hSw); go_simp; try with_reducible rfl
                  try simp only [Act.put, List.getElem_toArray, List.getElem_cons_succ, List.getElem_cons_zero, List.setIfInBounds_toArray, List.set_cons_zero, List.set_cons_succ]
                  refine wpAnyH_done (by kernel_rfl) ?_ _
                  refine NoPanic.normal ?_
                  try (go_wp2_with fail)
                  go_meet
                  exact ⟨_, rfl, rfl, rfl, HF10⟩
                · go_simp
                  try (go_wp2_with fail)
                  obtain ⟨wa10x6, hwa10x6⟩ : ∃ x, wo10x2.alloc (.cells #[.int .i64 0, .int .i64 0, .int .i64 0, .int .i64 0, .int .i64 0, .int .i64 0] 32) = x := ⟨_, rfl⟩
                  have HAwa10x6 := Lib.hid (show Below wo10x2.heap.size wo10x2 wa10x6 from by rw [← hwa10x6]; exact (Below.refl _ _).alloc (Nat.le_refl _) _)
                  have HNwa10x6 := Lib.hid (show wa10x6.heap[wo10x2.heap.size]? = some (.cells #[.int .i64 0, .int .i64 0, .int .i64 0, .int .i64 0, .int .i64 0, .int .i64 0] 32) from by rw [← hwa10x6]; exact new_blockS wo10x2 _)
                  have HBwa10x6 := Lib.hid (HBwo10x2.out.trans (HAwa10x6.out.mono HBwo10x2.out.size))
                  have HOwa10x6 := Lib.hid (HOwo10x2.out.below HAwa10x6.out)
                  have HCwa10x6 := HNwa10x6
                  have HG10 := Lib.hid (show w6.heap.size ≤ wo10x2.heap.size from HBwo10x2.out.size)
                  rw [hwa10x6]
                  clear hwa10x6
                  refine hK.out _ _ ?_ (fun hHeld => ?_)
                  · exact HKA6.out _ HBwa10x6.out
                  clear hK K
                  try simp only [Act.put, List.getElem_toArray, List.getElem_cons_succ, List.getElem_cons_zero, List.setIfInBounds_toArray, List.set_cons_zero, List.set_cons_succ]
                  refine wpAnyH_ready (rs := [10]) (by kernel_rfl) (by simp) (AllReadyH.cons rfl (fun K hK => ?_) AllReadyH.nil)
                  go_simp
                  go_at_call 10
                  refine (HS10.out wa10x6 _ _ HBwa10x6.out HOwa10x6.out).mono ?_
                  rintro e ws10x7 ⟨rfl, hby⟩
                  have HBws10x7 := Lib.hid (HBwa10x6.out.trans (hby.mono HBwa10x6.out.size))
                  have HOws10x7 := Lib.hid (HOwa10x6.out.below hby)
                  have HCws10x7 := Lib.hid (hby.block _ (Array.getElem?_eq_some_iff.1 HCwa10x6.out).1 |>.trans HCwa10x6.out)
                  clear hby
                  try (go_wp2_with fail)
                  refine hK.out _ _ ?_ (fun hHeld => ?_)
                  · exact HKA6.out _ HBws10x7.out
                  clear hK K
                  try simp only [Act.put, List.getElem_toArray, List.getElem_cons_succ, List.getElem_cons_zero, List.setIfInBounds_toArray, List.set_cons_zero, List.set_cons_succ]
                  refine wpAnyH_take (i := 11) (v := ?_) rfl (by kernel_rfl) (by kernel_rfl) (by kernel_rfl) (fun _ _ _ h => h) (Or.inl ⟨by rfl, ?hy⟩) (by assumption) ?_
                  case hy => intro w hSw; (try dsimp only at hSw); go_simp; try with_reducible rfl
                  try simp only [Act.put, List.getElem_toArray, List.getElem_cons_succ, List.getElem_cons_zero, List.setIfInBounds_toArray, List.set_cons_zero, List.set_cons_succ]
                  refine wpAnyH_take (i := 12) (v := ?_) rfl (by kernel_rfl) (by kernel_rfl) (by kernel_rfl) (fun _ _ _ h => h) (Or.inl ⟨by rfl, ?hy⟩) (by assumption) ?_
                  case hy => intro w hSw; (try dsimp only at hSw); go_simp; try with_reducible rfl
                  try simp only [Act.put, List.getElem_toArray, List.getElem_cons_succ, List.getElem_cons_zero, List.setIfInBounds_toArray, List.set_cons_zero, List.set_cons_succ]
                  refine wpAnyH_take (i := 13) (v := ?_) rfl (by kernel_rfl) (by kernel_rfl) (by kernel_rfl) (fun _ _ _ h => h) (Or.inl ⟨by rfl, ?hy⟩) (by assumption) ?_
                  case hy => intro w hSw; (try dsimp only at hSw); go_simp; try with_reducible rfl
                  try simp only [Act.put, List.getElem_toArray, List.getElem_cons_succ, List.getElem_cons_zero, List.setIfInBounds_toArray, List.set_cons_zero, List.set_cons_succ]
                  refine wpAnyH_take (i := 14) (v := ?_) rfl (by kernel_rfl) (by kernel_rfl) (by kernel_rfl) (fun _ _ _ h => h) (Or.inl ⟨by rfl, ?hy⟩) (by assumption) ?_
                  case hy => intro w hSw; (try dsimp only at hSw); go_simp; try with_reducible rfl
                  try simp only [Act.put, List.getElem_toArray, List.getElem_cons_succ, List.getElem_cons_zero, List.setIfInBounds_toArray, List.set_cons_zero, List.set_cons_succ]
                  refine wpAnyH_ready (rs := [16]) (by kernel_rfl) (by simp) (AllReadyH.cons rfl (fun K hK => ?_) AllReadyH.nil)
                  obtain ⟨⟨z0, z1, z2, z3, z4, z5⟩, zf⟩ := ct_cells (c := .zero) HCws10x7.out
                  dsimp only [CntS.zero] at z0 z1 z2 z3 z4 z5
                  go_simp
                  have HF10 := Lib.hid (fin_set HBws10x7.out HG10.out HCws10x7.out xp xb xd xe xr xm)
                  refine hK.out _ _ ?_ (fun hHeld => ?_)
                  · exact HKA6.out _ HF10.out.2.2
                  clear hK K
                  try simp only [Act.put, List.getElem_toArray, List.getElem_cons_succ, List.getElem_cons_zero, List.setIfInBounds_toArray, List.set_cons_zero, List.set_cons_succ]
                  refine wpAnyH_take (i := 17) (v := ?_) rfl (by kernel_rfl) (by kernel_rfl) (by kernel_rfl) (fun _ _ _ h => h) (Or.inl ⟨by rfl, ?hy⟩) (by assumption) ?_
                  case hy => intro w hSw; (try dsimp only at hSw); go_simp; try with_reducible rfl
                  try simp only [Act.put, List.getElem_toArray, List.getElem_cons_succ, List.getElem_cons_zero, List.setIfInBounds_toArray, List.set_cons_zero, List.set_cons_succ]
                  refine wpAnyH_take (i := 18) (v := ?_) rfl (by kernel_rfl) (by kernel_rfl) (by kernel_rfl) (fun _ _ _ h => h) (Or.inl ⟨by rfl, ?hy⟩) (by assumption) ?_
                  case hy => intro w hSw; (try dsimp only at hSw); go_simp; try with_reducible rfl
                  try simp only [Act.put, List.getElem_toArray, List.getElem_cons_succ, List.getElem_cons_zero, List.setIfInBounds_toArray, List.set_cons_zero, List.set_cons_succ]
                  refine wpAnyH_done (by kernel_rfl) ?_ _
                  refine NoPanic.normal ?_
                  try (go_wp2_with fail)
                  go_meet
                  exact ⟨_, rfl, rfl, rfl, HF10⟩
              · go_simp
                try (go_wp2_with fail)
                obtain ⟨wa10x9, hwa10x9⟩ : ∃ x, wd10.alloc (.cells #[.int .i64 0, .int .i64 0, .int .i64 0, .int .i64 0, .int .i64 0, .int .i64 0] 32) = x := ⟨_, rfl⟩
                have HAwa10x9 := Lib.hid (show Below wd10.heap.size wd10 wa10x9 from by rw [← hwa10x9]; exact (Below.refl _ _).alloc (Nat.le_refl _) _)
                have HNwa10x9 := Lib.hid (show wa10x9.heap[wd10.heap.size]? = some (.cells #[.int .i64 0, .int .i64 0, .int .i64 0, .int .i64 0, .int .i64 0, .int .i64 0] 32) from by rw [← hwa10x9]; exact new_blockS wd10 _)
                have HBwa10x9 := Lib.hid (HBwd10.out.trans (HAwa10x9.out.mono HBwd10.out.size))
                have HCwa10x9 := HNwa10x9
                have HG10 := Lib.hid (show w6.heap.size ≤ wd10.heap.size from HBwd10.out.size)
                rw [hwa10x9]
                clear hwa10x9
                refine hK.out _ _ ?_ (fun hHeld => ?_)
                · exact HKA6.out _ HBwa10x9.out
                clear hK K
                try simp only [Act.put, List.getElem_toArray, List.getElem_cons_succ, List.getElem_cons_zero, List.setIfInBounds_toArray, List.set_cons_zero, List.set_cons_succ]
                refine wpAnyH_ready (rs := [9]) (by kernel_rfl) (by simp) (AllReadyH.cons rfl (fun K hK => ?_) AllReadyH.nil)
                go_simp
                go_at_call 12
                refine (HOF10.out wa10x9 HBwa10x9.out).mono ?_
                rintro e wo10x10 ⟨ao10, co10, rfl, hk, hby⟩
                have HBwo10x10 := Lib.hid (HBwa10x9.out.trans (hby.mono HBwa10x9.out.size))
                have HCwo10x10 := Lib.hid (hby.block _ (Array.getElem?_eq_some_iff.1 HCwa10x9.out).1 |>.trans HCwa10x9.out)
                have HOwo10x10 := Lib.hid hk
                clear hby hk
                try (go_wp2_with fail)
                refine hK.out _ _ ?_ (fun hHeld => ?_)
                · exact HKA6.out _ HBwo10x10.out
                clear hK K
                try simp only [Act.put, List.getElem_toArray, List.getElem_cons_succ, List.getElem_cons_zero, List.setIfInBounds_toArray, List.set_cons_zero, List.set_cons_succ]
                refine wpAnyH_ready (rs := [10]) (by kernel_rfl) (by simp) (AllReadyH.cons rfl (fun K hK => ?_) AllReadyH.nil)
                go_simp
                go_at_call 10
                refine (HS10.out wo10x10 _ _ HBwo10x10.out HOwo10x10.out).mono ?_
                rintro e ws10x11 ⟨rfl, hby⟩
                have HBws10x11 := Lib.hid (HBwo10x10.out.trans (hby.mono HBwo10x10.out.size))
                have HOws10x11 := Lib.hid (HOwo10x10.out.below hby)
                have HCws10x11 := Lib.hid (hby.block _ (Array.getElem?_eq_some_iff.1 HCwo10x10.out).1 |>.trans HCwo10x10.out)
                clear hby
                try (go_wp2_with fail)
                refine hK.out _ _ ?_ (fun hHeld => ?_)
                · exact HKA6.out _ HBws10x11.out
                clear hK K
                try simp only [Act.put, List.getElem_toArray, List.getElem_cons_succ, List.getElem_cons_zero, List.setIfInBounds_toArray, List.set_cons_zero, List.set_cons_succ]
                refine wpAnyH_take (i := 11) (v := ?_) rfl (by kernel_rfl) (by kernel_rfl) (by kernel_rfl) (fun _ _ _ h => h) (Or.inl ⟨by rfl, ?hy⟩) (by assumption) ?_
                case hy => intro w hSw; (try dsimp only at hSw); go_simp; try with_reducible rfl
                try simp only [Act.put, List.getElem_toArray, List.getElem_cons_succ, List.getElem_cons_zero, List.setIfInBounds_toArray, List.set_cons_zero, List.set_cons_succ]
                refine wpAnyH_take (i := 12) (v := ?_) rfl (by kernel_rfl) (by kernel_rfl) (by kernel_rfl) (fun _ _ _ h => h) (Or.inl ⟨by rfl, ?hy⟩) (by assumption) ?_
                case hy => intro w hSw; (try dsimp only at hSw); go_simp; try with_reducible rfl
                try simp only [Act.put, List.getElem_toArray, List.getElem_cons_succ, List.getElem_cons_zero, List.setIfInBounds_toArray, List.set_cons_zero, List.set_cons_succ]
                refine wpAnyH_take (i := 13) (v := ?_) rfl (by kernel_rfl) (by kernel_rfl) (by kernel_rfl) (fun _ _ _ h => h) (Or.inl ⟨by rfl, ?hy⟩) (by assumption) ?_
                case hy => intro w hSw; (try dsimp only at hSw); go_simp; try with_reducible rfl
                try simp only [Act.put, List.getElem_toArray, List.getElem_cons_succ, List.getElem_cons_zero, List.setIfInBounds_toArray, List.set_cons_zero, List.set_cons_succ]
                refine wpAnyH_take (i := 14) (v := ?_) rfl (by kernel_rfl) (by kernel_rfl) (by kernel_rfl) (fun _ _ _ h => h) (Or.inl ⟨by rfl, ?hy⟩) (by assumption) ?_
                case hy => intro w hSw; (try dsimp only at hSw); go_simp; try with_reducible rfl
                try simp only [Act.put, List.getElem_toArray, List.getElem_cons_succ, List.getElem_cons_zero, List.setIfInBounds_toArray, List.set_cons_zero, List.set_cons_succ]
                refine wpAnyH_ready (rs := [16]) (by kernel_rfl) (by simp) (AllReadyH.cons rfl (fun K hK => ?_) AllReadyH.nil)
                obtain ⟨⟨z0, z1, z2, z3, z4, z5⟩, zf⟩ := ct_cells (c := .zero) HCws10x11.out
                dsimp only [CntS.zero] at z0 z1 z2 z3 z4 z5
                go_simp
                have HF10 := Lib.hid (fin_set HBws10x11.out HG10.out HCws10x11.out xp xb xd xe xr xm)
                refine hK.out _ _ ?_ (fun hHeld => ?_)
                · exact HKA6.out _ HF10.out.2.2
                clear hK K
                try simp only [Act.put, List.getElem_toArray, List.getElem_cons_succ, List.getElem_cons_zero, List.setIfInBounds_toArray, List.set_cons_zero, List.set_cons_succ]
                refine wpAnyH_take (i := 17) (v := ?_) rfl (by kernel_rfl) (by kernel_rfl) (by kernel_rfl) (fun _ _ _ h => h) (Or.inl ⟨by rfl, ?hy⟩) (by assumption) ?_
                case hy => intro w hSw; (try dsimp only at hSw); go_simp; try with_reducible rfl
                try simp only [Act.put, List.getElem_toArray, List.getElem_cons_succ, List.getElem_cons_zero, List.setIfInBounds_toArray, List.set_cons_zero, List.set_cons_succ]
                refine wpAnyH_take (i := 18) (v := ?_) rfl (by kernel_rfl) (by kernel_rfl) (by kernel_rfl) (fun _ _ _ h => h) (Or.inl ⟨by rfl, ?hy⟩) (by assumption) ?_
                case hy => intro w hSw; (try dsimp only at hSw); go_simp; try with_reducible rfl
                try simp only [Act.put, List.getElem_toArray, List.getElem_cons_succ, List.getElem_cons_zero, List.setIfInBounds_toArray, List.set_cons_zero, List.set_cons_succ]
                refine wpAnyH_done (by kernel_rfl) ?_ _
                refine NoPanic.normal ?_
                try (go_wp2_with fail)
                go_meet
                exact ⟨_, rfl, rfl, rfl, HF10⟩
            · go_simp
              try (go_wp2_with fail)
              obtain ⟨wa10x13, hwa10x13⟩ : ∃ x, wd10.alloc (.cells #[.int .i64 0, .int .i64 0, .int .i64 0, .int .i64 0, .int .i64 0, .int .i64 0] 32) = x := ⟨_, rfl⟩
              have HAwa10x13 := Lib.hid (show Below wd10.heap.size wd10 wa10x13 from by rw [← hwa10x13]; exact (Below.refl _ _).alloc (Nat.le_refl _) _)
              have HNwa10x13 := Lib.hid (show wa10x13.heap[wd10.heap.size]? = some (.cells #[.int .i64 0, .int .i64 0, .int .i64 0, .int .i64 0, .int .i64 0, .int .i64 0] 32) from by rw [← hwa10x13]; exact new_blockS wd10 _)
              have HBwa10x13 := Lib.hid (HBwd10.out.trans (HAwa10x13.out.mono HBwd10.out.size))
              have HCwa10x13 := HNwa10x13
              have HG10 := Lib.hid (show w6.heap.size ≤ wd10.heap.size from HBwd10.out.size)
              rw [hwa10x13]
              clear hwa10x13
              refine hK.out _ _ ?_ (fun hHeld => ?_)
              · exact HKA6.out _ HBwa10x13.out
              clear hK K
              try simp only [Act.put, List.getElem_toArray, List.getElem_cons_succ, List.getElem_cons_zero, List.setIfInBounds_toArray, List.set_cons_zero, List.set_cons_succ]
              refine wpAnyH_ready (rs := [2]) (by kernel_rfl) (by simp) (AllReadyH.cons rfl (fun K hK => ?_) AllReadyH.nil)
              go_simp
              go_at_call 11
              refine (HL10.out wa10x13 HBwa10x13.out).mono ?_
              rintro e wl14 ⟨rfl, hq⟩
              rw [hq]
              clear hq
              try (go_wp2_with fail)
              refine hK.out _ _ ?_ (fun hHeld => ?_)
              · exact HKA6.out _ HBwa10x13.out
              clear hK K
              try simp only [Act.put, List.getElem_toArray, List.getElem_cons_succ, List.getElem_cons_zero, List.setIfInBounds_toArray, List.set_cons_zero, List.set_cons_succ]
              refine wpAnyH_ready (rs := [9]) (by kernel_rfl) (by simp) (AllReadyH.cons rfl (fun K hK => ?_) AllReadyH.nil)
              go_simp
              go_at_call 12
              refine (HOF10.out wa10x13 HBwa10x13.out).mono ?_
              rintro e wo10x15 ⟨ao15, co15, rfl, hk, hby⟩
              have HBwo10x15 := Lib.hid (HBwa10x13.out.trans (hby.mono HBwa10x13.out.size))
              have HCwo10x15 := Lib.hid (hby.block _ (Array.getElem?_eq_some_iff.1 HCwa10x13.out).1 |>.trans HCwa10x13.out)
              have HOwo10x15 := Lib.hid hk
              clear hby hk
              try (go_wp2_with fail)
              refine hK.out _ _ ?_ (fun hHeld => ?_)
              · exact HKA6.out _ HBwo10x15.out
              clear hK K
              try simp only [Act.put, List.getElem_toArray, List.getElem_cons_succ, List.getElem_cons_zero, List.setIfInBounds_toArray, List.set_cons_zero, List.set_cons_succ]
              refine wpAnyH_ready (rs := [10]) (by kernel_rfl) (by simp) (AllReadyH.cons rfl (fun K hK => ?_) AllReadyH.nil)
              go_simp
              go_at_call 10
              refine (HS10.out wo10x15 _ _ HBwo10x15.out HOwo10x15.out).mono ?_
              rintro e ws10x16 ⟨rfl, hby⟩
              have HBws10x16 := Lib.hid (HBwo10x15.out.trans (hby.mono HBwo10x15.out.size))
              have HOws10x16 := Lib.hid (HOwo10x15.out.below hby)
              have HCws10x16 := Lib.hid (hby.block _ (Array.getElem?_eq_some_iff.1 HCwo10x15.out).1 |>.trans HCwo10x15.out)
              clear hby
              try (go_wp2_with fail)
              refine hK.out _ _ ?_ (fun hHeld => ?_)
              · exact HKA6.out _ HBws10x16.out
              clear hK K
              try simp only [Act.put, List.getElem_toArray, List.getElem_cons_succ, List.getElem_cons_zero, List.setIfInBounds_toArray, List.set_cons_zero, List.set_cons_succ]
              refine wpAnyH_take (i := 11) (v := ?_) rfl (by kernel_rfl) (by kernel_rfl) (by kernel_rfl) (fun _ _ _ h => h) (Or.inl ⟨by rfl, ?hy⟩) (by assumption) ?_
              case hy => intro w hSw; (try dsimp only at hSw); go_simp; try with_reducible rfl
              try simp only [Act.put, List.getElem_toArray, List.getElem_cons_succ, List.getElem_cons_zero, List.setIfInBounds_toArray, List.set_cons_zero, List.set_cons_succ]
              refine wpAnyH_take (i := 12) (v := ?_) rfl (by kernel_rfl) (by kernel_rfl) (by kernel_rfl) (fun _ _ _ h => h) (Or.inl ⟨by rfl, ?hy⟩) (by assumption) ?_
              case hy => intro w hSw; (try dsimp only at hSw); go_simp; try with_reducible rfl
              try simp only [Act.put, List.getElem_toArray, List.getElem_cons_succ, List.getElem_cons_zero, List.setIfInBounds_toArray, List.set_cons_zero, List.set_cons_succ]
              refine wpAnyH_take (i := 13) (v := ?_) rfl (by kernel_rfl) (by kernel_rfl) (by kernel_rfl) (fun _ _ _ h => h) (Or.inl ⟨by rfl, ?hy⟩) (by assumption) ?_
              case hy => intro w hSw; (try dsimp only at hSw); go_simp; try with_reducible rfl
              try simp only [Act.put, List.getElem_toArray, List.getElem_cons_succ, List.getElem_cons_zero, List.setIfInBounds_toArray, List.set_cons_zero, List.set_cons_succ]
              refine wpAnyH_take (i := 14) (v := ?_) rfl (by kernel_rfl) (by kernel_rfl) (by kernel_rfl) (fun _ _ _ h => h) (Or.inl ⟨by rfl, ?hy⟩) (by assumption) ?_
              case hy => intro w hSw; (try dsimp only at hSw); go_simp; try with_reducible rfl
              try simp only [Act.put, List.getElem_toArray, List.getElem_cons_succ, List.getElem_cons_zero, List.setIfInBounds_toArray, List.set_cons_zero, List.set_cons_succ]
              refine wpAnyH_ready (rs := [16]) (by kernel_rfl) (by simp) (AllReadyH.cons rfl (fun K hK => ?_) AllReadyH.nil)
              obtain ⟨⟨z0, z1, z2, z3, z4, z5⟩, zf⟩ := ct_cells (c := .zero) HCws10x16.out
              dsimp only [CntS.zero] at z0 z1 z2 z3 z4 z5
              go_simp
              have HF10 := Lib.hid (fin_set HBws10x16.out HG10.out HCws10x16.out xp xb xd xe xr xm)
              refine hK.out _ _ ?_ (fun hHeld => ?_)
              · exact HKA6.out _ HF10.out.2.2
              clear hK K
              try simp only [Act.put, List.getElem_toArray, List.getElem_cons_succ, List.getElem_cons_zero, List.setIfInBounds_toArray, List.set_cons_zero, List.set_cons_succ]
              refine wpAnyH_take (i := 17) (v := ?_) rfl (by kernel_rfl) (by kernel_rfl) (by kernel_rfl) (fun _ _ _ h => h) (Or.inl ⟨by rfl, ?hy⟩) (by assumption) ?_
              case hy => intro w hSw; (try dsimp only at hSw); go_simp; try with_reducible rfl
              try simp only [Act.put, List.getElem_toArray, List.getElem_cons_succ, List.getElem_cons_zero, List.setIfInBounds_toArray, List.set_cons_zero, List.set_cons_succ]
              refine wpAnyH_take (i := 18) (v := ?_) rfl (by kernel_rfl) (by kernel_rfl) (by kernel_rfl) (fun _ _ _ h => h) (Or.inl ⟨by rfl, ?hy⟩) (by assumption) ?_
              case hy => intro w hSw; (try dsimp only at hSw); go_simp; try with_reducible rfl
              try simp only [Act.put, List.getElem_toArray, List.getElem_cons_succ, List.getElem_cons_zero, List.setIfInBounds_toArray, List.set_cons_zero, List.set_cons_succ]
              refine wpAnyH_done (by kernel_rfl) ?_ _
              refine NoPanic.normal ?_
              try (go_wp2_with fail)
              go_meet
              exact ⟨_, rfl, rfl, rfl, HF10⟩
          case rest =>
            obtain ⟨B2, rfl, rfl, rfl, HC2⟩ := hcut
            obtain ⟨w7, hw7⟩ : ∃ x, x = wc := ⟨_, rfl⟩
            rw [← hw7] at HC2
            simp only [← hw7]
            clear hw7 HL10 HS10 HOF10 d0 d1 d2 d3
            have hb1 := (HC2.out.2.2.block B1 (Array.getElem?_eq_some_iff.1 HC1.out.2.1).1).trans HC1.out.2.1
            obtain ⟨⟨x0, x1, x2, x3, x4, x5⟩, _⟩ := ct_cells (c := ⟨xp, xb, xd, xe, xr, xm⟩) hb1
            obtain ⟨⟨y0, y1, y2, y3, y4, y5⟩, _⟩ := ct_cells (c := ⟨xp, xb, xd, xe, xr, xm⟩) HC2.out.2.1
            dsimp only at x0 x1 x2 x3 x4 x5 y0 y1 y2 y3 y4 y5
            have HB7 := Lib.hid (HBY.out.trans ((HC1.out.2.2.trans (HC2.out.2.2.mono HC1.out.2.2.size)).mono HBY.out.size))
            clear hb1
            go_wp2_with (fail)
            refine ⟨⟨i + 1, by omega, by go_num, HB7⟩, by first | (simp [intOf]; done) | (simp [intOf]; omega)⟩
      · clear hka
        have hkb : (kind != 4) = true := by simpa using hk4
        go_wp2_with (fail)
        refine ⟨⟨i + 1, by omega, by go_num, HBY⟩, by first | (simp [intOf]; done) | (simp [intOf]; omega)⟩
    · have i1 : ¬ (i : Int) < nP := by omega
      have HBT := Lib.hid (HT2.out.below HBY.out)
      clear HK2 HT2
      go_wp2_with (fail)
      go_loopw [12, 13, 14] (fun x12 x13 _ wz => ∃ (j : Nat) (v : Value), j ≤ n ∧ x13 = .int .i64 j ∧ x12 = v ∧ Hid (wz.ownsRow wy.heap.size 42 10 v j (flatD ((ds.take j).map outD))) ∧ Hid (Below wy.heap.size wy wz)) (fun _ x13 _ _ => n - (intOf x13).toNat)
      case atStart => exact ⟨0, _, Nat.zero_le _, rfl, rfl, Lib.hid (World.ownsRow_nil _ _ _ _), Lib.hid (Below.refl _ _)⟩
      case round =>
        rename World => wr
        obtain ⟨j, v, hj, rfl, rfl, HO, HBR⟩ := hrel
        by_cases hjlt : j < n
        · obtain ⟨d, hd⟩ : ∃ d, ds[j]? = some d := ⟨_, List.getElem?_eq_getElem (by rw [HN.out]; exact hjlt)⟩
          obtain ⟨bl, ol, rfl, hbl, hcw⟩ := HROW.out.get hd
          have hb : Below w.heap.size w wr := HB0.out.trans ((HBT.out.bel.trans (HBR.out.mono HBT.out.bel.size)).mono HB0.out.size)
          have hc : ∀ k u, d.cs[k]? = some u → wr.cell? ⟨bl, ol + j * 10 + k, none⟩ = some u := fun k u hu => (hb.cell (p := ⟨bl, ol + j * 10 + k, none⟩) hbl).trans (hcw k u hu)
          have HTK := Lib.hid (show (ds.take (j + 1)).map outD = (ds.take j).map outD ++ [outD d] by rw [take_snocT hd, List.map_append]; rfl)
          clear hd hcw hb
          obtain ⟨kind, ⟨at_, res, ctx, org, inb, cnt, aa, al, ac⟩, rt, failed⟩ := d
          have c0 := hc 0 _ rfl
          rw [Nat.add_zero] at c0
          have c1 := hc 1 _ rfl
          have c2 := hc 2 _ rfl
          have c3 := hc 3 _ rfl
          have c4 := hc 4 _ rfl
          have c5 := hc 5 _ rfl
          have c6 := hc 6 _ rfl
          have c7 := hc 7 _ rfl
          have c8 := hc 8 _ rfl
          have c9 := hc 9 _ rfl
          dsimp only at c0 c1 c2 c3 c4 c5 c6 c7 c8 c9
          have j0 : (0 : Int) ≤ j := by omega
          have j1 : (j : Int) < n := by omega
          clear hc
          have halx : Below wr.heap.size wr (wr.alloc (.cells #[.int .i64 kind, .int .i64 at_, .string res, .string ctx, .string org, .bool true, .int .i64 cnt, .slice aa al ac, .int .i64 rt, .bool failed] 42)) := (Below.refl _ _).alloc (Nat.le_refl _) _
          have hzx : (wr.alloc (.cells #[.int .i64 kind, .int .i64 at_, .string res, .string ctx, .string org, .bool true, .int .i64 cnt, .slice aa al ac, .int .i64 rt, .bool failed] 42)).heap.size = wr.heap.size + 1 := by simp
          obtain ⟨v', w', hap, hown', hbel'⟩ := run_append_deed (wr := wr.alloc (.cells #[.int .i64 kind, .int .i64 at_, .string res, .string ctx, .string org, .bool true, .int .i64 cnt, .slice aa al ac, .int .i64 rt, .bool failed] 42)) (HO.out.alloc _) (HBR.out.alloc HBR.out.size _) (by have := HM.out; omega) (outD ⟨kind, ⟨at_, res, ctx, org, inb, cnt, aa, al, ac⟩, rt, failed⟩) 22
          rw [hzx] at hap
          unfold TDeed.cs outD at hap
          dsimp only at hap
          have HAP := Lib.hid hap
          have HOW := Lib.hid hown'
          have HBE := Lib.hid hbel'
          clear hap hown' hbel' halx hzx
          go_wp2_with (at_builtin; refine wpList_append_run (by rfl) (.tmp 98) (.tmp 100) 22 22 (by rfl) (by rfl) (by rfl) (by rfl) HAP.out ?_)
          refine ⟨⟨j + 1, v', by omega, by go_num, rfl, by rw [HTK.out]; exact HOW, HBE⟩, by first | (simp [intOf]; done) | (simp [intOf]; omega)⟩
        · have j1 : ¬ (j : Int) < n := by omega
          have hjn : j = n := by omega
          have e1 : ds.take j = ds := List.take_of_length_le (by rw [HN.out]; omega)
          rw [e1, hjn] at HO
          obtain ⟨a9, c9, rfl⟩ := own_sliceT HO.out
          have HRW := Lib.hid (HRU2.out wr a9 c9 (deedRow_own HO.out (by rw [List.length_map]; exact HN.out)))
          have HBX := Lib.hid (HB0.out.trans ((HBT.out.bel.trans (HBR.out.mono HBT.out.bel.size)).mono HB0.out.size))
          clear e1 HO HROW HRUN HRU2 HIV HBT HBR
          go_wp2_with (fail)
          refine HRW.out.mono ?_
          rintro e w3 ⟨tu, rfl, h3⟩
          obtain ⟨TU, htu⟩ : ∃ TU, tu.tb = TU := ⟨_, rfl⟩
          rw [htu]
          have HU3 := Lib.hid h3
          have hfu : nU ≤ 512 := by rw [← HNU.out]; exact tres_few h3
          have HA3 := Lib.hid (tres_all h3 htu)
          clear h3 HRW
          go_wp2_with (fail)
          refine HA3.out.mono ?_
          intro e w4 hp4
          obtain ⟨a4, c4, rfl, hk4, _, hb4⟩ := cl_keys hp4
          rw [HNU.out]
          have HK4 := Lib.hid hk4
          have HU4 := Lib.hid (HU3.out.below hb4)
          clear hp4 hk4 hb4 HA3 HU3
          go_wp2_with (fail)
          go_loopw [16, 17] (fun x16 x17 wz => ∃ (i : Nat) (v : Value) (m : Nat), i ≤ nU ∧ x17 = .int .i64 i ∧ x16 = v ∧ Hid ((((keysM U.1).take i).filter allP).length = m) ∧ Hid (wz.ownsRow w4.heap.size 30 4 v m (flatK (((keysM U.1).take i).filter allP))) ∧ Hid (Below w4.heap.size w4 wz)) (fun _ x17 _ => nU - (intOf x17).toNat)
          case atStart => exact ⟨0, _, 0, Nat.zero_le _, rfl, rfl, Lib.hid rfl, Lib.hid (World.ownsRow_nil _ _ _ _), Lib.hid (Below.refl _ _)⟩
          case round =>
            rename World => wz
            obtain ⟨i, v, m, hi, rfl, rfl, HML, HO, HBZ⟩ := hrel
            by_cases hilt : i < nU
            · obtain ⟨q, hq⟩ : ∃ q, (keysM U.1)[i]? = some q := ⟨_, List.getElem?_eq_getElem (by rw [keys_len, HNU.out]; exact hilt)⟩
              have hka := HK4.out.below HBZ.out
              obtain ⟨g4, rfl, hg4, d0, d1, d2, d3⟩ := hka.get hq
              have HFT := Lib.hid (filter_take_snoc (P := allP) hq)
              have hmi : m ≤ 512 := by
                have h1 := HML.out
                have h2 := List.length_filter_le allP ((keysM U.1).take i)
                rw [List.length_take] at h2
                omega
              obtain ⟨kind, qctx, qres, qorg⟩ := q
              dsimp only at d0 d1 d2 d3
              have i0 : (0 : Int) ≤ i := by omega
              have i1 : (i : Int) < nU := by omega
              clear hq hka
              by_cases hk4 : kind = 4
              · subst hk4
                have hft := HFT.out
                rw [if_pos (show allP ⟨4, qctx, qres, qorg⟩ = true from rfl)] at hft
                have HFU := Lib.hid hft
                obtain ⟨v', w', hap, hown', hbel'⟩ := run_append_key HO.out HBZ.out (by omega) ⟨4, qctx, qres, qorg⟩ 26
                unfold KeyS.cs at hap
                dsimp only at hap
                have HAP := Lib.hid hap
                have HOW := Lib.hid hown'
                have HBE := Lib.hid hbel'
                clear hap hown' hbel' hft
                go_wp2_with (at_builtin; refine wpList_append_run (by rfl) (.tmp 118) (.tmp 123) 26 26 (by rfl) (by rfl) (by rfl) (by rfl) HAP.out ?_)
                refine ⟨⟨i + 1, v', m + 1, by omega, by go_num, rfl, Lib.hid (by rw [HFU.out, List.length_append, HML.out]; rfl), Lib.hid (by rw [HFU.out]; exact HOW.out), HBE⟩, by first | (simp [intOf]; done) | (simp [intOf]; omega)⟩
              · have hft := HFT.out
                rw [if_neg (show ¬ allP ⟨kind, qctx, qres, qorg⟩ = true by simpa [allP] using hk4), List.append_nil] at hft
                have HFU := Lib.hid hft
                clear hft
                go_wp2_with (fail)
                refine ⟨⟨i + 1, _, m, by omega, by go_num, rfl, Lib.hid (by rw [HFU.out]; exact HML.out), Lib.hid (by rw [HFU.out]; exact HO.out), HBZ⟩, by first | (simp [intOf]; done) | (simp [intOf]; omega)⟩
            · have i1 : ¬ (i : Int) < nU := by omega
              have e1 : (keysM U.1).take i = keysM U.1 := List.take_of_length_le (by rw [keys_len, HNU.out]; omega)
              rw [e1] at HML HO
              obtain ⟨a7, c7, rfl⟩ := own_sliceT HO.out
              have HUZ := Lib.hid (HU4.out.below HBZ.out)
              have HBW := Lib.hid (HBX.out.trans (HUZ.out.bel.mono HBX.out.size))
              have HKL := Lib.hid (keysAt_row HO.out HML.out)
              have hmi : m ≤ 512 := by
                have h1 := HML.out
                have h2 := List.length_filter_le allP (keysM U.1)
                rw [keys_len, HNU.out] at h2
                omega
              have HH := Lib.hid (tres_hasb HUZ.out htu ⟨1, noT, noT, noT⟩ ⟨by simp, by simp, noT_ok, noT_ok, noT_ok⟩)
              cases hb : (getM U.1 ⟨1, noT, noT, noT⟩).isSome with
              | false =>
                have hm0 : m = 0 := by
                  rw [← HML.out]
                  have h : (keysM U.1).filter allP = [] := by
                    rw [List.filter_eq_nil_iff]
                    intro k hk hp
                    have h2 := HIO.out.has ⟨k, hk, by simpa [allP] using hp⟩
                    rw [isSome_mem.2 h2] at hb
                    cases hb
                  rw [h]; rfl
                rw [hb] at HH
                unfold KeyS.v noT at HH
                dsimp only at HH
                clear HML HKL HO hb e1 HIO
                subst hm0
                go_wp2_with (fail)
                refine HH.out.mono ?_
                rintro e w5 ⟨rfl, hb5⟩
                have HFIN := Lib.hid (HBW.out.trans (hb5.mono HBW.out.size))
                clear hb5
                go_wp2_with (fail)
                go_ret
                exact ⟨by simp, HFIN.out⟩
              | true =>
                have hin := isSome_mem.1 hb
                have HIN := Lib.hid hin
                rw [hb] at HH
                have HWS := Lib.hid (whole_sumN HIO.out hin U.2)
                obtain ⟨XC, hXC⟩ : ∃ XC, sumN U.2 (nodesOf U.1 [⟨1, noT, noT, noT⟩]) = XC := ⟨_, rfl⟩
                obtain ⟨FL, hFL⟩ : ∃ FL, flsOf (nodesOf U.1 [⟨1, noT, noT, noT⟩]) = FL := ⟨_, rfl⟩
                obtain ⟨xp, xb, xd, xe, xr, xm⟩ := XC
                rw [hXC, hFL] at HWS
                have HS1 := Lib.hid (fun (wx : World) (g : Nat) (hx : Below wz.heap.size wz wx) (hg : wx.heap[g]? = some (.cells #[.int .u8 1, .string noT, .string noT, .string noT] 30)) => tres_sumone (HUZ.out.below hx) htu ⟨1, noT, noT, noT⟩ HIN.out g hg)
                rw [hXC, hFL] at HS1
                obtain ⟨LA, hLA⟩ : ∃ LA, (keysM U.1).filter allP = LA := ⟨_, rfl⟩
                have HIA := Lib.hid (show ∀ x, x ∈ LA → x ∈ keysM U.1 from fun x hx => by rw [← hLA] at hx; exact (List.mem_filter.1 hx).1)
                rw [hLA] at HWS HML HKL
                have HS2 := Lib.hid (fun (wx : World) (hx : Below wz.heap.size wz wx) => tres_suml (HUZ.out.below hx) htu a7 m c7 LA HML.out (by omega) (HKL.out.below hx) HIA.out)
                rw [HWS.out.1, HWS.out.2] at HS2
                have HLS := Lib.hid (fun (wx : World) (hx : Below wz.heap.size wz wx) => tres_last (HUZ.out.below hx) htu)
                unfold KeyS.v at HH
                unfold ctV at HS1 HS2
                unfold noT at HH HS1
                dsimp only at HH HS1 HS2
                clear HML HO hb e1 HIO hin hXC hFL hLA HWS HKL HIA HIN
                go_wp2_with (fail)
                refine HH.out.mono ?_
                rintro e w5 ⟨rfl, hb5⟩
                have HB5 := Lib.hid hb5
                clear hb5
                go_wp2_with (fail)
                refine (HLS.out _ HB5.out).mono ?_
                rintro e wq5 ⟨rfl, hq⟩
                rw [hq]
                clear hq
                have HB6 := Lib.hid (HB5.out.alloc HB5.out.size (.cells #[.int .u8 1, .string ⟨#[]⟩, .string ⟨#[]⟩, .string ⟨#[]⟩] 30))
                have HN6 := Lib.hid (new_blockS w5 (.cells #[.int .u8 1, .string ⟨#[]⟩, .string ⟨#[]⟩, .string ⟨#[]⟩] 30))
                go_wp2_with (fail)
                refine (HS1.out _ _ HB6.out HN6.out).mono ?_
                rintro e w6 ⟨rfl, hb6⟩
                have HB7 := Lib.hid (HB6.out.trans (hb6.mono HB6.out.size))
                have hal8 := HB7.out.alloc HB7.out.size (.cells #[.int .i64 xp, .int .i64 xb, .int .i64 xd, .int .i64 xe, .int .i64 xr, .int .i64 xm] 32)
                have hn8 := new_blockS w6 (.cells #[.int .i64 xp, .int .i64 xb, .int .i64 xd, .int .i64 xe, .int .i64 xr, .int .i64 xm] 32)
                have HB8 := Lib.hid hal8
                have HN8 := Lib.hid hn8
                clear hb6 hal8 hn8
                go_wp2_with (fail)
                refine (HLS.out _ HB8.out).mono ?_
                rintro e wq8 ⟨rfl, hq⟩
                rw [hq]
                clear hq
                obtain ⟨w8, hw8⟩ : ∃ x, w6.alloc (.cells #[.int .i64 xp, .int .i64 xb, .int .i64 xd, .int .i64 xe, .int .i64 xr, .int .i64 xm] 32) = x := ⟨_, rfl⟩
                rw [hw8] at HB8 HN8 ⊢
                clear hw8
                go_wp2_with (fail)
                refine (HS2.out _ HB8.out).mono ?_
                rintro e w9 ⟨rfl, hb9⟩
                have h9 := (hb9.block w6.heap.size (Array.getElem?_eq_some_iff.1 HN8.out).1).trans HN8.out
                have HB9 := Lib.hid (HB8.out.trans (hb9.mono HB8.out.size))
                have hal10 : Below w9.heap.size w9 (w9.alloc (.cells #[.int .i64 xp, .int .i64 xb, .int .i64 xd, .int .i64 xe, .int .i64 xr, .int .i64 xm] 32)) := (Below.refl _ _).alloc (Nat.le_refl _) _
                obtain ⟨⟨x0, x1, x2, x3, x4, x5⟩, _⟩ := ct_cells (c := ⟨xp, xb, xd, xe, xr, xm⟩) ((hal10.block w6.heap.size (Array.getElem?_eq_some_iff.1 h9).1).trans h9)
                obtain ⟨⟨y0, y1, y2, y3, y4, y5⟩, _⟩ := ct_cells (c := ⟨xp, xb, xd, xe, xr, xm⟩) (new_blockS w9 (.cells #[.int .i64 xp, .int .i64 xb, .int .i64 xd, .int .i64 xe, .int .i64 xr, .int .i64 xm] 32))
                dsimp only at x0 x1 x2 x3 x4 x5 y0 y1 y2 y3 y4 y5
                have HFIN := Lib.hid (HBW.out.trans ((HB9.out.trans (hal10.mono HB9.out.size)).mono HBW.out.size))
                clear hb9 h9 hal10
                go_wp2_with (fail)
                go_ret
                exact ⟨by simp, HFIN.out⟩
theorem trsums_law {w : World} (r : DeedsL) (h : DeedsAt w r) :
    Calls Try.prog 3 #[r.v] w fun e w' => e = .returned (.bool true) ∧ Below w.heap.size w w' := trsums_walk h.l (by have := h.b; omega) h.row h.z
end Go.Proofs.Ytpbbidijnmooaaa
