/- spillwaymem: KeptRules. -/
import Derived.Test.YtnobfmlfhaaghaaSameR
namespace Go.Proofs.Ytnobfmlfhaaghaa
open Go.RowKit
set_option linter.unusedVariables false
set_option linter.unusedSimpArgs false


set_option maxHeartbeats 25600000 in
set_option maxRecDepth 100000 in
theorem keptR_any {w : World} (r x : RulesS) (hr : RulesAt w r) (hx : HandedR w r x) : Calls Try.prog 18 #[.agg x.cs, .agg r.cs] w fun e w' => e = .returned (.bool true) ∧ Below w.heap.size w w' := by
  obtain ⟨gF, gB, gS, a2, cc2, a4, cc4, ho, au, hxc, hv⟩ := hx.pieces
  have HSR := Lib.hid (fun wx (hw : Below w.heap.size w wx) => sameR_any (w := wx) r x (hr.below (Nat.le_refl _) hw) (hx.below hw))
  rw [hxc] at HSR
  rw [hxc]
  unfold RulesS.cs at *
  generalize hA2 : r.a2 = A2 at *
  generalize hA4 : r.a4 = A4 at *
  have HA2 := Lib.hid hA2
  have HA4 := Lib.hid hA4
  clear hA2 hA4 hxc hx
  have hb0 : Below w.heap.size w ((w.alloc (.cells #[.slice (some ⟨gF, 0, none⟩) r.n0 (r.n0 + 9), .slice (some ⟨gB, 0, none⟩) r.n1 (r.n1 + 9), .slice a2 r.n2 cc2, .slice (some ⟨gS, 0, none⟩) r.n3 (r.n3 + 9), .slice a4 r.n4 cc4] 45)).alloc (.cells #[.slice r.a0 r.n0 r.c0, .slice r.a1 r.n1 r.c1, .slice A2 r.n2 r.c2, .slice r.a3 r.n3 r.c3, .slice A4 r.n4 r.c4] 45)) := ((Below.refl _ _).alloc (Nat.le_refl _) _).alloc (by simp) _
  have h0 : ((w.alloc (.cells #[.slice (some ⟨gF, 0, none⟩) r.n0 (r.n0 + 9), .slice (some ⟨gB, 0, none⟩) r.n1 (r.n1 + 9), .slice a2 r.n2 cc2, .slice (some ⟨gS, 0, none⟩) r.n3 (r.n3 + 9), .slice a4 r.n4 cc4] 45)).alloc (.cells #[.slice r.a0 r.n0 r.c0, .slice r.a1 r.n1 r.c1, .slice A2 r.n2 r.c2, .slice r.a3 r.n3 r.c3, .slice A4 r.n4 r.c4] 45)).heap[w.heap.size]? = some (.cells #[.slice (some ⟨gF, 0, none⟩) r.n0 (r.n0 + 9), .slice (some ⟨gB, 0, none⟩) r.n1 (r.n1 + 9), .slice a2 r.n2 cc2, .slice (some ⟨gS, 0, none⟩) r.n3 (r.n3 + 9), .slice a4 r.n4 cc4] 45) := by rw [get_allocJ, if_neg (by simp), get_allocJ, if_pos rfl]
  have h1 : ((w.alloc (.cells #[.slice (some ⟨gF, 0, none⟩) r.n0 (r.n0 + 9), .slice (some ⟨gB, 0, none⟩) r.n1 (r.n1 + 9), .slice a2 r.n2 cc2, .slice (some ⟨gS, 0, none⟩) r.n3 (r.n3 + 9), .slice a4 r.n4 cc4] 45)).alloc (.cells #[.slice r.a0 r.n0 r.c0, .slice r.a1 r.n1 r.c1, .slice A2 r.n2 r.c2, .slice r.a3 r.n3 r.c3, .slice A4 r.n4 r.c4] 45)).heap[w.heap.size + 1]? = some (.cells #[.slice r.a0 r.n0 r.c0, .slice r.a1 r.n1 r.c1, .slice A2 r.n2 r.c2, .slice r.a3 r.n3 r.c3, .slice A4 r.n4 r.c4] 45) := by rw [get_allocJ, if_pos (by simp)]
  have hz : ((w.alloc (.cells #[.slice (some ⟨gF, 0, none⟩) r.n0 (r.n0 + 9), .slice (some ⟨gB, 0, none⟩) r.n1 (r.n1 + 9), .slice a2 r.n2 cc2, .slice (some ⟨gS, 0, none⟩) r.n3 (r.n3 + 9), .slice a4 r.n4 cc4] 45)).alloc (.cells #[.slice r.a0 r.n0 r.c0, .slice r.a1 r.n1 r.c1, .slice A2 r.n2 r.c2, .slice r.a3 r.n3 r.c3, .slice A4 r.n4 r.c4] 45)).heap.size = w.heap.size + 2 := by simp
  have hr1 := hr.below (Nat.le_refl _) hb0
  have hv1 := hv.below hb0
  go_enter Try.func18, Try.ntmps18
  go_wp2_with (fail)
  generalize ((w.alloc (.cells #[.slice (some ⟨gF, 0, none⟩) r.n0 (r.n0 + 9), .slice (some ⟨gB, 0, none⟩) r.n1 (r.n1 + 9), .slice a2 r.n2 cc2, .slice (some ⟨gS, 0, none⟩) r.n3 (r.n3 + 9), .slice a4 r.n4 cc4] 45)).alloc (.cells #[.slice r.a0 r.n0 r.c0, .slice r.a1 r.n1 r.c1, .slice A2 r.n2 r.c2, .slice r.a3 r.n3 r.c3, .slice A4 r.n4 r.c4] 45)) = W at *
  have HB0 := Lib.hid hb0
  have HRW := Lib.hid hr1
  have HVW := Lib.hid hv1
  have HBX : Hid (∀ wx, Below W.heap.size W wx → (wx.cell? ⟨w.heap.size, 0, none⟩ = some (.slice (some ⟨gF, 0, none⟩) r.n0 (r.n0 + 9)) ∧ wx.cell? ⟨w.heap.size, 1, none⟩ = some (.slice (some ⟨gB, 0, none⟩) r.n1 (r.n1 + 9)) ∧ wx.cell? ⟨w.heap.size, 2, none⟩ = some (.slice a2 r.n2 cc2) ∧ wx.cell? ⟨w.heap.size, 3, none⟩ = some (.slice (some ⟨gS, 0, none⟩) r.n3 (r.n3 + 9)) ∧ wx.cell? ⟨w.heap.size, 4, none⟩ = some (.slice a4 r.n4 cc4)) ∧ wx.cell? ⟨w.heap.size + 1, 0, none⟩ = some (.slice r.a0 r.n0 r.c0) ∧ wx.cell? ⟨w.heap.size + 1, 1, none⟩ = some (.slice r.a1 r.n1 r.c1) ∧ wx.cell? ⟨w.heap.size + 1, 2, none⟩ = some (.slice A2 r.n2 r.c2) ∧ wx.cell? ⟨w.heap.size + 1, 3, none⟩ = some (.slice r.a3 r.n3 r.c3) ∧ wx.cell? ⟨w.heap.size + 1, 4, none⟩ = some (.slice A4 r.n4 r.c4)) := Lib.hid (fun wx hb => by
    have g0 := (hb.block w.heap.size (by omega)).trans h0
    have g1 := (hb.block (w.heap.size + 1) (by omega)).trans h1
    simp only [World.cell?, g0, g1]
    exact ⟨⟨rfl, rfl, rfl, rfl, rfl⟩, rfl, rfl, rfl, rfl, rfl⟩)
  have HCF : Hid (∀ wx, Below W.heap.size W wx → Calls Try.prog 39 #[.slice (some ⟨gF, 0, none⟩) r.n0 (r.n0 + 9), .slice r.a0 r.n0 r.c0] wx fun e w' => e = .returned (.bool true) ∧ Below wx.heap.size wx w') := Lib.hid (fun wx hx => by obtain ⟨b, ho⟩ := HVW.out.oF; exact keptFl_any gF b r.a0 r.n0 r.c0 r.fl HRW.out.l0 HRW.out.s0 (below_ownT ho hx) (flows_rows (HRW.out.fl.below (Nat.le_refl _) hx)))
  have HCB : Hid (∀ wx, Below W.heap.size W wx → Calls Try.prog 40 #[.slice (some ⟨gB, 0, none⟩) r.n1 (r.n1 + 9), .slice r.a1 r.n1 r.c1] wx fun e w' => e = .returned (.bool true) ∧ Below wx.heap.size wx w') := Lib.hid (fun wx hx => by obtain ⟨b, ho⟩ := HVW.out.oB; exact keptBr_any gB b r.a1 r.n1 r.c1 r.br HRW.out.l1 HRW.out.s1 (below_ownT ho hx) (HRW.out.br.below (Nat.le_refl _) hx))
  have HCS : Hid (∀ wx, Below W.heap.size W wx → Calls Try.prog 26 #[.slice (some ⟨gS, 0, none⟩) r.n3 (r.n3 + 9), .slice r.a3 r.n3 r.c3] wx fun e w' => e = .returned (.bool true) ∧ Below wx.heap.size wx w') := Lib.hid (fun wx hx => by obtain ⟨b, ho⟩ := HVW.out.oS; exact keptSy_any gS b r.a3 r.n3 r.c3 r.sy HRW.out.l3 HRW.out.s3 (below_ownT ho hx) (HRW.out.sy.below (Nat.le_refl _) hx))
  clear h0 h1 hz hb0 hr1 hv1 hr hv
  refine (HSR.out _ HB0.out).mono ?_
  rintro e w0 ⟨rfl, hbs⟩
  have HWX : Hid (Below W.heap.size W w0) := Lib.hid hbs
  clear hbs HSR
  obtain ⟨⟨p0, p1, p2, p3, p4⟩, q0, q1, q2, q3, q4⟩ := HBX.out _ HWX.out
  go_wp2_with (fail)
  refine (HCF.out _ HWX.out).mono ?_
  rintro e w1 ⟨rfl, hbs⟩
  have HWX0 : Hid (Below W.heap.size W w1) := Lib.hid (HWX.out.trans (hbs.mono HWX.out.size))
  clear HWX hbs p0 p1 p2 p3 p4 q0 q1 q2 q3 q4
  have HWX := HWX0
  clear HWX0
  obtain ⟨⟨p0, p1, p2, p3, p4⟩, q0, q1, q2, q3, q4⟩ := HBX.out _ HWX.out
  go_wp2_with (fail)
  refine (HCB.out _ HWX.out).mono ?_
  rintro e w2 ⟨rfl, hbs⟩
  have HWX1 : Hid (Below W.heap.size W w2) := Lib.hid (HWX.out.trans (hbs.mono HWX.out.size))
  clear HWX hbs p0 p1 p2 p3 p4 q0 q1 q2 q3 q4
  have HWX := HWX1
  clear HWX1
  obtain ⟨⟨p0, p1, p2, p3, p4⟩, q0, q1, q2, q3, q4⟩ := HBX.out _ HWX.out
  go_wp2_with (fail)
  refine (HCS.out _ HWX.out).mono ?_
  rintro e w3 ⟨rfl, hbs⟩
  have HWX2 : Hid (Below W.heap.size W w3) := Lib.hid (HWX.out.trans (hbs.mono HWX.out.size))
  clear HWX hbs p0 p1 p2 p3 p4 q0 q1 q2 q3 q4
  have HWX := HWX2
  clear HWX2
  obtain ⟨⟨p0, p1, p2, p3, p4⟩, q0, q1, q2, q3, q4⟩ := HBX.out _ HWX.out
  go_wp2_with (fail)
  clear p0 p1 p2 p3 p4 q0 q1 q2 q3 q4
  go_loopw [5] (fun s wr => ∃ k : Nat, k ≤ r.n2 ∧ s = .int .i64 k ∧ Hid (Below W.heap.size W wr)) (fun s _ => r.n2 - (intOf s).toNat)
  case atStart => exact ⟨0, Nat.zero_le _, rfl, HWX⟩
  case round =>
    rename World => wy
    clear HWX
    obtain ⟨k, hk, rfl, HWX⟩ := hrel
    obtain ⟨⟨p0, p1, p2, p3, p4⟩, q0, q1, q2, q3, q4⟩ := HBX.out _ HWX.out
    have k0 : (0 : Int) ≤ k := by omega
    by_cases hlt : k < r.n2
    · have k1 : (k : Int) < r.n2 := by omega
      have hbb0 := HRW.out.s2
      have hkl : k < r.ho.length := by rw [HRW.out.l2]; exact hlt
      have HRX := Lib.hid (HRW.out.below (Nat.le_refl _) HWX.out)
      have HVX := Lib.hid (HVW.out.below HWX.out)
      obtain ⟨y, hy⟩ : ∃ y, r.ho[k]? = some y := ⟨_, List.getElem?_eq_getElem hkl⟩
      obtain ⟨z, hz, e1, e2, e3, e4, e5⟩ := kernH_get HVX.out.hk hy
      obtain ⟨yb, yo, hya, hyl, hyc⟩ := rowsAt_getH HRX.out.ho (j := k) (x := HotS.cs y) (by rw [List.getElem?_map, hy]; rfl)
      obtain ⟨xb, xo, hxa, hxl, hxc⟩ := rowsAt_getH HVX.out.rh (j := k) (x := HotS.cs z) (by rw [List.getElem?_map, hz]; rfl)
      have HY := Lib.hid (HRX.out.zh y (List.mem_of_getElem? hy))
      obtain ⟨zb, g, gb_, hbb, hza, hzc, hzl, hzo⟩ := HVX.out.hh z (List.mem_of_getElem? hz)
      rw [e5] at hzl hzo
      have hll : z.il = y.il := by rw [← hzl]; exact HY.out.l
      rw [hll] at hzo hzc
      have d0 : wy.cell? ⟨yb, yo + k * 5, none⟩ = some (.string y.res) := hyc 0 (.string y.res) (by decide) rfl
      have d1 : wy.cell? ⟨yb, yo + k * 5 + 1, none⟩ = some (.int .i64 y.idx) := hyc 1 (.int .i64 y.idx) (by decide) rfl
      have d2 : wy.cell? ⟨yb, yo + k * 5 + 2, none⟩ = some (.int .i64 y.cnt) := hyc 2 (.int .i64 y.cnt) (by decide) rfl
      have d3 : wy.cell? ⟨yb, yo + k * 5 + 3, none⟩ = some (.int .i64 y.secs) := hyc 3 (.int .i64 y.secs) (by decide) rfl
      have d4 : wy.cell? ⟨yb, yo + k * 5 + 4, none⟩ = some (.slice y.ia y.il y.ic) := hyc 4 (.slice y.ia y.il y.ic) (by decide) rfl
      have c0 : wy.cell? ⟨xb, xo + k * 5, none⟩ = some (.string y.res) := by have h := hxc 0 (.string z.res) (by decide) rfl; rw [e1] at h; exact h
      have c1 : wy.cell? ⟨xb, xo + k * 5 + 1, none⟩ = some (.int .i64 y.idx) := by have h := hxc 1 (.int .i64 z.idx) (by decide) rfl; rw [e2] at h; exact h
      have c2 : wy.cell? ⟨xb, xo + k * 5 + 2, none⟩ = some (.int .i64 y.cnt) := by have h := hxc 2 (.int .i64 z.cnt) (by decide) rfl; rw [e3] at h; exact h
      have c3 : wy.cell? ⟨xb, xo + k * 5 + 3, none⟩ = some (.int .i64 y.secs) := by have h := hxc 3 (.int .i64 z.secs) (by decide) rfl; rw [e4] at h; exact h
      have c4 : wy.cell? ⟨xb, xo + k * 5 + 4, none⟩ = some (.slice (some ⟨g, 0, none⟩) y.il (y.il + 9)) := by have h := hxc 4 (.slice z.ia z.il z.ic) (by decide) rfl; rw [hza, hll, hzc] at h; exact h
      obtain rfl : A2 = some ⟨yb, yo, none⟩ := HA2.out.symm.trans hya
      subst hxa
      have hlx : xb < wy.heap.size := World.block_lt_of_cell? _ _ c0
      have hly : yb < wy.heap.size := World.block_lt_of_cell? _ _ d0
      have hlp : w.heap.size < wy.heap.size := World.block_lt_of_cell? _ _ p0
      have hlq : w.heap.size + 1 < wy.heap.size := World.block_lt_of_cell? _ _ q0
      have SB : Hid (∀ wx, Below wy.heap.size wy wx → (fun wx => wx.cell? ⟨w.heap.size, 2, none⟩ = some (.slice (some ⟨xb, xo, none⟩) r.n2 cc2) ∧ wx.cell? ⟨w.heap.size + 1, 2, none⟩ = some (.slice (some ⟨yb, yo, none⟩) r.n2 r.c2) ∧ (wx.cell? ⟨xb, xo + k * 5 + 4, none⟩ = some (.slice (some ⟨g, 0, none⟩) y.il (y.il + 9))) ∧ (wx.cell? ⟨yb, yo + k * 5 + 4, none⟩ = some (.slice y.ia y.il y.ic)) ∧ Below wy.heap.size wy wx) wx) := Lib.hid (fun wx hb => ⟨(hb.cell (p := ⟨w.heap.size, 2, none⟩) hlp).trans p2, (hb.cell (p := ⟨w.heap.size + 1, 2, none⟩) hlq).trans q2, (hb.cell (p := ⟨xb, xo + k * 5 + 4, none⟩) hlx).trans c4, (hb.cell (p := ⟨yb, yo + k * 5 + 4, none⟩) hly).trans d4, hb⟩)
      have HCON := Lib.hid (fun wx (hx : Below wy.heap.size wy wx) => keptIt_any (w := wx) g gb_ y.ia y.il y.ic y.items HY.out.l HY.out.b (below_ownT hzo hx) (HY.out.at_.below (Nat.le_refl _) hx))
      have HP := Lib.hid (And.intro hyl (And.intro hxl hza))
      clear c0 d0 c1 d1 c2 d2 c3 d3 c4 d4 hyc hxc p0 q0 p1 q1 p3 q3 p4 q4 hya hyl hxl hzo hzl hzc hza hll hbb hlx hly hlp hlq e1 e2 e5 hy hz e3 e4
      as_aux_lemma =>
        go_wp2_with (fail)
        refine wp_region_noPanic ?_
        refine wp_region_held_drew (S := (fun wx => wx.cell? ⟨w.heap.size, 2, none⟩ = some (.slice (some ⟨xb, xo, none⟩) r.n2 cc2) ∧ wx.cell? ⟨w.heap.size + 1, 2, none⟩ = some (.slice (some ⟨yb, yo, none⟩) r.n2 r.c2) ∧ (wx.cell? ⟨xb, xo + k * 5 + 4, none⟩ = some (.slice (some ⟨g, 0, none⟩) y.il (y.il + 9))) ∧ (wx.cell? ⟨yb, yo + k * 5 + 4, none⟩ = some (.slice y.ia y.il y.ic)) ∧ Below wy.heap.size wy wx)) (by kernel_rfl) ?_ (fun hHeld => ?_)
        · exact SB.out _ (Below.refl _ _).drew
        refine wpAnyH_take (i := 0) (v := ?_) rfl (by kernel_rfl) (by kernel_rfl) (by kernel_rfl) (fun _ _ _ h => h) (Or.inl ⟨by rfl, ?hy⟩) (by assumption) ?_
        case hy => intro w hSw; (try dsimp only at hSw); go_simp; try with_reducible rfl
        try simp only [Act.put, List.getElem_toArray, List.getElem_cons_succ, List.getElem_cons_zero, List.setIfInBounds_toArray, List.set_cons_zero, List.set_cons_succ]
        refine wpAnyH_take (i := 1) (v := ?_) rfl (by kernel_rfl) (by kernel_rfl) (by kernel_rfl) (fun _ _ _ h => h) (Or.inl ⟨by rfl, ?hy⟩) (by assumption) ?_
        case hy => intro w hSw; (try dsimp only at hSw); go_simp; try with_reducible rfl
        try simp only [Act.put, List.getElem_toArray, List.getElem_cons_succ, List.getElem_cons_zero, List.setIfInBounds_toArray, List.set_cons_zero, List.set_cons_succ]
        refine wpAnyH_take (i := 2) (v := ?_) rfl (by kernel_rfl) (by kernel_rfl) (by kernel_rfl) (fun _ _ _ h => h) (Or.inl ⟨by rfl, ?hy⟩) (by assumption) ?_
        case hy => intro w hSw; (try dsimp only at hSw); go_simp; try with_reducible rfl
        try simp only [Act.put, List.getElem_toArray, List.getElem_cons_succ, List.getElem_cons_zero, List.setIfInBounds_toArray, List.set_cons_zero, List.set_cons_succ]
        refine wpAnyH_take (i := 3) (v := ?_) rfl (by kernel_rfl) (by kernel_rfl) (by kernel_rfl) (fun _ _ _ h => h) (Or.inl ⟨by rfl, ?hy⟩) (by assumption) ?_
        case hy => intro w hSw; (try dsimp only at hSw); go_simp; try with_reducible rfl
        try simp only [Act.put, List.getElem_toArray, List.getElem_cons_succ, List.getElem_cons_zero, List.setIfInBounds_toArray, List.set_cons_zero, List.set_cons_succ]
        refine wpAnyH_take (i := 4) (v := ?_) rfl (by kernel_rfl) (by kernel_rfl) (by kernel_rfl) (fun _ _ _ h => h) (Or.inl ⟨by rfl, ?hy⟩) (by assumption) ?_
        case hy => intro w hSw; (try dsimp only at hSw); go_simp; try with_reducible rfl
        try simp only [Act.put, List.getElem_toArray, List.getElem_cons_succ, List.getElem_cons_zero, List.setIfInBounds_toArray, List.set_cons_zero, List.set_cons_succ]
        refine wpAnyH_take (i := 5) (v := ?_) rfl (by kernel_rfl) (by kernel_rfl) (by kernel_rfl) (fun _ _ _ h => h) (Or.inl ⟨by rfl, ?hy⟩) (by assumption) ?_
        case hy => intro w hSw; (try dsimp only at hSw); go_simp; try with_reducible rfl
        try simp only [Act.put, List.getElem_toArray, List.getElem_cons_succ, List.getElem_cons_zero, List.setIfInBounds_toArray, List.set_cons_zero, List.set_cons_succ]
        refine wpAnyH_take (i := 6) (v := ?_) rfl (by kernel_rfl) (by kernel_rfl) (by kernel_rfl) (fun _ _ _ h => h) (Or.inl ⟨by rfl, ?hy⟩) (by assumption) ?_
        case hy => intro w hSw; (try dsimp only at hSw); go_simp; try with_reducible rfl
        try simp only [Act.put, List.getElem_toArray, List.getElem_cons_succ, List.getElem_cons_zero, List.setIfInBounds_toArray, List.set_cons_zero, List.set_cons_succ]
        refine wpAnyH_take (i := 7) (v := ?_) rfl (by kernel_rfl) (by kernel_rfl) (by kernel_rfl) (fun _ _ _ h => h) (Or.inl ⟨by rfl, ?hy⟩) (by assumption) ?_
        case hy => intro w hSw; (try dsimp only at hSw); go_simp; try with_reducible rfl
        try simp only [Act.put, List.getElem_toArray, List.getElem_cons_succ, List.getElem_cons_zero, List.setIfInBounds_toArray, List.set_cons_zero, List.set_cons_succ]
        refine wpAnyH_take (i := 8) (v := ?_) rfl (by kernel_rfl) (by kernel_rfl) (by kernel_rfl) (fun _ _ _ h => h) (Or.inl ⟨by rfl, ?hy⟩) (by assumption) ?_
        case hy => intro w hSw; (try dsimp only at hSw); go_simp; try with_reducible rfl
        try simp only [Act.put, List.getElem_toArray, List.getElem_cons_succ, List.getElem_cons_zero, List.setIfInBounds_toArray, List.set_cons_zero, List.set_cons_succ]
        refine wpAnyH_take (i := 9) (v := ?_) rfl (by kernel_rfl) (by kernel_rfl) (by kernel_rfl) (fun _ _ _ h => h) (Or.inl ⟨by rfl, ?hy⟩) (by assumption) ?_
        case hy => intro w hSw; (try dsimp only at hSw); go_simp; try with_reducible rfl
        try simp only [Act.put, List.getElem_toArray, List.getElem_cons_succ, List.getElem_cons_zero, List.setIfInBounds_toArray, List.set_cons_zero, List.set_cons_succ]
        refine wpAnyH_take (i := 10) (v := ?_) rfl (by kernel_rfl) (by kernel_rfl) (by kernel_rfl) (fun _ _ _ h => h) (Or.inl ⟨by rfl, ?hy⟩) (by assumption) ?_
        case hy => intro w hSw; (try dsimp only at hSw); go_simp; try with_reducible rfl
        try simp only [Act.put, List.getElem_toArray, List.getElem_cons_succ, List.getElem_cons_zero, List.setIfInBounds_toArray, List.set_cons_zero, List.set_cons_succ]
        refine wpAnyH_take (i := 11) (v := ?_) rfl (by kernel_rfl) (by kernel_rfl) (by kernel_rfl) (fun _ _ _ h => h) (Or.inl ⟨by rfl, ?hy⟩) (by assumption) ?_
        case hy => intro w hSw; (try dsimp only at hSw); go_simp; try with_reducible rfl
        try simp only [Act.put, List.getElem_toArray, List.getElem_cons_succ, List.getElem_cons_zero, List.setIfInBounds_toArray, List.set_cons_zero, List.set_cons_succ]
        refine wpAnyH_ready (rs := [12]) (by kernel_rfl) (by simp) (AllReadyH.cons rfl (fun K hK => ?_) AllReadyH.nil)
        go_simp
        go_at_call 41; refine (HCON.out _ hHeld.2.2.2.2).mono ?_; rintro e wq ⟨rfl, hbq⟩
        try (go_wp2_with fail)
        refine hK.out _ _ ?_ (fun hHeld => ?_)
        · exact SB.out _ (hHeld.2.2.2.2.trans (hbq.mono hHeld.2.2.2.2.size))
        clear hK K
        try simp only [Act.put, List.getElem_toArray, List.getElem_cons_succ, List.getElem_cons_zero, List.setIfInBounds_toArray, List.set_cons_zero, List.set_cons_succ]
        refine wpAnyH_take (i := 13) (v := ?_) rfl (by kernel_rfl) (by kernel_rfl) (by kernel_rfl) (fun _ _ _ h => h) (Or.inl ⟨by rfl, ?hy⟩) (by assumption) ?_
        case hy => intro w hSw; (try dsimp only at hSw); go_simp; try with_reducible rfl
        try simp only [Act.put, List.getElem_toArray, List.getElem_cons_succ, List.getElem_cons_zero, List.setIfInBounds_toArray, List.set_cons_zero, List.set_cons_succ]
        refine wpAnyH_done (by kernel_rfl) ?_ _
        refine NoPanic.normal ?_
        go_wp2_with (fail)
        exact ⟨⟨k + 1, by omega, by go_num, Lib.hid (HWX.out.trans (hHeld.2.2.2.2.mono HWX.out.size))⟩, by first | (simp [intOf]; done) | (simp [intOf]; omega)⟩
    · have k1 : ¬ (k : Int) < r.n2 := by omega
      go_wp2_with (fail)
      clear hk k0 hlt k1 p0 p1 p2 p3 p4 q0 q1 q2 q3 q4
      go_loopw [6] (fun s wr => ∃ k : Nat, k ≤ r.n4 ∧ s = .int .i64 k ∧ Hid (Below W.heap.size W wr)) (fun s _ => r.n4 - (intOf s).toNat)
      case atStart => exact ⟨0, Nat.zero_le _, rfl, HWX⟩
      case round =>
        rename World => wz
        clear HWX
        obtain ⟨k, hk, rfl, HWX⟩ := hrel
        obtain ⟨⟨p0, p1, p2, p3, p4⟩, q0, q1, q2, q3, q4⟩ := HBX.out _ HWX.out
        have k0 : (0 : Int) ≤ k := by omega
        by_cases hlt : k < r.n4
        · have k1 : (k : Int) < r.n4 := by omega
          have hbb0 := HRW.out.s4
          have hkl : k < r.au.length := by rw [HRW.out.l4]; exact hlt
          have HRX := Lib.hid (HRW.out.below (Nat.le_refl _) HWX.out)
          have HVX := Lib.hid (HVW.out.below HWX.out)
          obtain ⟨y, hy⟩ : ∃ y, r.au[k]? = some y := ⟨_, List.getElem?_eq_getElem hkl⟩
          obtain ⟨z, hz, e1, e2, e5⟩ := kernA_get HVX.out.ak hy
          obtain ⟨yb, yo, hya, hyl, hyc⟩ := rowsAt_getH HRX.out.au (j := k) (x := AuthS.cs y) (by rw [List.getElem?_map, hy]; rfl)
          obtain ⟨xb, xo, hxa, hxl, hxc⟩ := rowsAt_getH HVX.out.ra (j := k) (x := AuthS.cs z) (by rw [List.getElem?_map, hz]; rfl)
          have HY := Lib.hid (HRX.out.za y (List.mem_of_getElem? hy))
          obtain ⟨zb, g, gb_, hbb, hza, hzc, hzl, hzo⟩ := HVX.out.ha z (List.mem_of_getElem? hz)
          rw [e5] at hzl hzo
          have hll : z.ol = y.ol := by rw [← hzl]; exact HY.out.l
          rw [hll] at hzo hzc
          have d0 : wz.cell? ⟨yb, yo + k * 3, none⟩ = some (.string y.res) := hyc 0 (.string y.res) (by decide) rfl
          have d1 : wz.cell? ⟨yb, yo + k * 3 + 1, none⟩ = some (.bool y.white) := hyc 1 (.bool y.white) (by decide) rfl
          have d2 : wz.cell? ⟨yb, yo + k * 3 + 2, none⟩ = some (.slice y.oa y.ol y.oc) := hyc 2 (.slice y.oa y.ol y.oc) (by decide) rfl
          have c0 : wz.cell? ⟨xb, xo + k * 3, none⟩ = some (.string y.res) := by have h := hxc 0 (.string z.res) (by decide) rfl; rw [e1] at h; exact h
          have c1 : wz.cell? ⟨xb, xo + k * 3 + 1, none⟩ = some (.bool y.white) := by have h := hxc 1 (.bool z.white) (by decide) rfl; rw [e2] at h; exact h
          have c2 : wz.cell? ⟨xb, xo + k * 3 + 2, none⟩ = some (.slice (some ⟨g, 0, none⟩) y.ol (y.ol + 9)) := by have h := hxc 2 (.slice z.oa z.ol z.oc) (by decide) rfl; rw [hza, hll, hzc] at h; exact h
          obtain rfl : A4 = some ⟨yb, yo, none⟩ := HA4.out.symm.trans hya
          subst hxa
          have hlx : xb < wz.heap.size := World.block_lt_of_cell? _ _ c0
          have hly : yb < wz.heap.size := World.block_lt_of_cell? _ _ d0
          have hlp : w.heap.size < wz.heap.size := World.block_lt_of_cell? _ _ p0
          have hlq : w.heap.size + 1 < wz.heap.size := World.block_lt_of_cell? _ _ q0
          have SB : Hid (∀ wx, Below wz.heap.size wz wx → (fun wx => wx.cell? ⟨w.heap.size, 4, none⟩ = some (.slice (some ⟨xb, xo, none⟩) r.n4 cc4) ∧ wx.cell? ⟨w.heap.size + 1, 4, none⟩ = some (.slice (some ⟨yb, yo, none⟩) r.n4 r.c4) ∧ (wx.cell? ⟨xb, xo + k * 3 + 2, none⟩ = some (.slice (some ⟨g, 0, none⟩) y.ol (y.ol + 9))) ∧ (wx.cell? ⟨yb, yo + k * 3 + 2, none⟩ = some (.slice y.oa y.ol y.oc)) ∧ Below wz.heap.size wz wx) wx) := Lib.hid (fun wx hb => ⟨(hb.cell (p := ⟨w.heap.size, 4, none⟩) hlp).trans p4, (hb.cell (p := ⟨w.heap.size + 1, 4, none⟩) hlq).trans q4, (hb.cell (p := ⟨xb, xo + k * 3 + 2, none⟩) hlx).trans c2, (hb.cell (p := ⟨yb, yo + k * 3 + 2, none⟩) hly).trans d2, hb⟩)
          have HCON := Lib.hid (fun wx (hx : Below wz.heap.size wz wx) => keptTx_any (w := wx) g gb_ y.oa y.ol y.oc y.orig HY.out.l HY.out.b (below_ownT hzo hx) ((texts_rows HY.out.at_).below (Nat.le_refl _) hx))
          have HP := Lib.hid (And.intro hyl (And.intro hxl hza))
          clear c0 d0 c1 d1 c2 d2 hyc hxc p0 q0 p1 q1 p2 q2 p3 q3 hya hyl hxl hzo hzl hzc hza hll hbb hlx hly hlp hlq e1 e2 e5 hy hz
          as_aux_lemma =>
            go_wp2_with (fail)
            refine wp_region_noPanic ?_
            refine wp_region_held_drew (S := (fun wx => wx.cell? ⟨w.heap.size, 4, none⟩ = some (.slice (some ⟨xb, xo, none⟩) r.n4 cc4) ∧ wx.cell? ⟨w.heap.size + 1, 4, none⟩ = some (.slice (some ⟨yb, yo, none⟩) r.n4 r.c4) ∧ (wx.cell? ⟨xb, xo + k * 3 + 2, none⟩ = some (.slice (some ⟨g, 0, none⟩) y.ol (y.ol + 9))) ∧ (wx.cell? ⟨yb, yo + k * 3 + 2, none⟩ = some (.slice y.oa y.ol y.oc)) ∧ Below wz.heap.size wz wx)) (by kernel_rfl) ?_ (fun hHeld => ?_)
            · exact SB.out _ (Below.refl _ _).drew
            refine wpAnyH_take (i := 0) (v := ?_) rfl (by kernel_rfl) (by kernel_rfl) (by kernel_rfl) (fun _ _ _ h => h) (Or.inl ⟨by rfl, ?hy⟩) (by assumption) ?_
            case hy => intro w hSw; (try dsimp only at hSw); go_simp; try with_reducible rfl
            try simp only [Act.put, List.getElem_toArray, List.getElem_cons_succ, List.getElem_cons_zero, List.setIfInBounds_toArray, List.set_cons_zero, List.set_cons_succ]
            refine wpAnyH_take (i := 1) (v := ?_) rfl (by kernel_rfl) (by kernel_rfl) (by kernel_rfl) (fun _ _ _ h => h) (Or.inl ⟨by rfl, ?hy⟩) (by assumption) ?_
            case hy => intro w hSw; (try dsimp only at hSw); go_simp; try with_reducible rfl
            try simp only [Act.put, List.getElem_toArray, List.getElem_cons_succ, List.getElem_cons_zero, List.setIfInBounds_toArray, List.set_cons_zero, List.set_cons_succ]
            refine wpAnyH_take (i := 2) (v := ?_) rfl (by kernel_rfl) (by kernel_rfl) (by kernel_rfl) (fun _ _ _ h => h) (Or.inl ⟨by rfl, ?hy⟩) (by assumption) ?_
            case hy => intro w hSw; (try dsimp only at hSw); go_simp; try with_reducible rfl
            try simp only [Act.put, List.getElem_toArray, List.getElem_cons_succ, List.getElem_cons_zero, List.setIfInBounds_toArray, List.set_cons_zero, List.set_cons_succ]
            refine wpAnyH_take (i := 3) (v := ?_) rfl (by kernel_rfl) (by kernel_rfl) (by kernel_rfl) (fun _ _ _ h => h) (Or.inl ⟨by rfl, ?hy⟩) (by assumption) ?_
            case hy => intro w hSw; (try dsimp only at hSw); go_simp; try with_reducible rfl
            try simp only [Act.put, List.getElem_toArray, List.getElem_cons_succ, List.getElem_cons_zero, List.setIfInBounds_toArray, List.set_cons_zero, List.set_cons_succ]
            refine wpAnyH_take (i := 4) (v := ?_) rfl (by kernel_rfl) (by kernel_rfl) (by kernel_rfl) (fun _ _ _ h => h) (Or.inl ⟨by rfl, ?hy⟩) (by assumption) ?_
            case hy => intro w hSw; (try dsimp only at hSw); go_simp; try with_reducible rfl
            try simp only [Act.put, List.getElem_toArray, List.getElem_cons_succ, List.getElem_cons_zero, List.setIfInBounds_toArray, List.set_cons_zero, List.set_cons_succ]
            refine wpAnyH_take (i := 5) (v := ?_) rfl (by kernel_rfl) (by kernel_rfl) (by kernel_rfl) (fun _ _ _ h => h) (Or.inl ⟨by rfl, ?hy⟩) (by assumption) ?_
            case hy => intro w hSw; (try dsimp only at hSw); go_simp; try with_reducible rfl
            try simp only [Act.put, List.getElem_toArray, List.getElem_cons_succ, List.getElem_cons_zero, List.setIfInBounds_toArray, List.set_cons_zero, List.set_cons_succ]
            refine wpAnyH_take (i := 6) (v := ?_) rfl (by kernel_rfl) (by kernel_rfl) (by kernel_rfl) (fun _ _ _ h => h) (Or.inl ⟨by rfl, ?hy⟩) (by assumption) ?_
            case hy => intro w hSw; (try dsimp only at hSw); go_simp; try with_reducible rfl
            try simp only [Act.put, List.getElem_toArray, List.getElem_cons_succ, List.getElem_cons_zero, List.setIfInBounds_toArray, List.set_cons_zero, List.set_cons_succ]
            refine wpAnyH_take (i := 7) (v := ?_) rfl (by kernel_rfl) (by kernel_rfl) (by kernel_rfl) (fun _ _ _ h => h) (Or.inl ⟨by rfl, ?hy⟩) (by assumption) ?_
            case hy => intro w hSw; (try dsimp only at hSw); go_simp; try with_reducible rfl
            try simp only [Act.put, List.getElem_toArray, List.getElem_cons_succ, List.getElem_cons_zero, List.setIfInBounds_toArray, List.set_cons_zero, List.set_cons_succ]
            refine wpAnyH_take (i := 8) (v := ?_) rfl (by kernel_rfl) (by kernel_rfl) (by kernel_rfl) (fun _ _ _ h => h) (Or.inl ⟨by rfl, ?hy⟩) (by assumption) ?_
            case hy => intro w hSw; (try dsimp only at hSw); go_simp; try with_reducible rfl
            try simp only [Act.put, List.getElem_toArray, List.getElem_cons_succ, List.getElem_cons_zero, List.setIfInBounds_toArray, List.set_cons_zero, List.set_cons_succ]
            refine wpAnyH_take (i := 9) (v := ?_) rfl (by kernel_rfl) (by kernel_rfl) (by kernel_rfl) (fun _ _ _ h => h) (Or.inl ⟨by rfl, ?hy⟩) (by assumption) ?_
            case hy => intro w hSw; (try dsimp only at hSw); go_simp; try with_reducible rfl
            try simp only [Act.put, List.getElem_toArray, List.getElem_cons_succ, List.getElem_cons_zero, List.setIfInBounds_toArray, List.set_cons_zero, List.set_cons_succ]
            refine wpAnyH_take (i := 10) (v := ?_) rfl (by kernel_rfl) (by kernel_rfl) (by kernel_rfl) (fun _ _ _ h => h) (Or.inl ⟨by rfl, ?hy⟩) (by assumption) ?_
            case hy => intro w hSw; (try dsimp only at hSw); go_simp; try with_reducible rfl
            try simp only [Act.put, List.getElem_toArray, List.getElem_cons_succ, List.getElem_cons_zero, List.setIfInBounds_toArray, List.set_cons_zero, List.set_cons_succ]
            refine wpAnyH_take (i := 11) (v := ?_) rfl (by kernel_rfl) (by kernel_rfl) (by kernel_rfl) (fun _ _ _ h => h) (Or.inl ⟨by rfl, ?hy⟩) (by assumption) ?_
            case hy => intro w hSw; (try dsimp only at hSw); go_simp; try with_reducible rfl
            try simp only [Act.put, List.getElem_toArray, List.getElem_cons_succ, List.getElem_cons_zero, List.setIfInBounds_toArray, List.set_cons_zero, List.set_cons_succ]
            refine wpAnyH_ready (rs := [12]) (by kernel_rfl) (by simp) (AllReadyH.cons rfl (fun K hK => ?_) AllReadyH.nil)
            go_simp
            go_at_call 42; refine (HCON.out _ hHeld.2.2.2.2).mono ?_; rintro e wq ⟨rfl, hbq⟩
            try (go_wp2_with fail)
            refine hK.out _ _ ?_ (fun hHeld => ?_)
            · exact SB.out _ (hHeld.2.2.2.2.trans (hbq.mono hHeld.2.2.2.2.size))
            clear hK K
            try simp only [Act.put, List.getElem_toArray, List.getElem_cons_succ, List.getElem_cons_zero, List.setIfInBounds_toArray, List.set_cons_zero, List.set_cons_succ]
            refine wpAnyH_take (i := 13) (v := ?_) rfl (by kernel_rfl) (by kernel_rfl) (by kernel_rfl) (fun _ _ _ h => h) (Or.inl ⟨by rfl, ?hy⟩) (by assumption) ?_
            case hy => intro w hSw; (try dsimp only at hSw); go_simp; try with_reducible rfl
            try simp only [Act.put, List.getElem_toArray, List.getElem_cons_succ, List.getElem_cons_zero, List.setIfInBounds_toArray, List.set_cons_zero, List.set_cons_succ]
            refine wpAnyH_done (by kernel_rfl) ?_ _
            refine NoPanic.normal ?_
            go_wp2_with (fail)
            exact ⟨⟨k + 1, by omega, by go_num, Lib.hid (HWX.out.trans (hHeld.2.2.2.2.mono HWX.out.size))⟩, by first | (simp [intOf]; done) | (simp [intOf]; omega)⟩
        · have k1 : ¬ (k : Int) < r.n4 := by omega
          go_wp2_with (fail)
          go_ret
          exact ⟨rfl, HB0.out.trans (HWX.out.mono HB0.out.size)⟩
end Go.Proofs.Ytnobfmlfhaaghaa
