/- The reference's Same: decided. -/
import Derived.Test.YtgkdpkpiejjfmaaRCpE
import Derived.Deep.RegionHeld3
namespace Go.Proofs.Ytgkdpkpiejjfmaa
open Go.RowKit
set_option linter.unusedVariables false
set_option linter.unusedSimpArgs false

theorem RowsAt.get {α : Type} {w : World} {a : Option Addr} {n : Nat} {xs : List α} {cs : α → List Value} (h : RowsAt w a n (xs.map cs)) {k : Nat} {u : α} (hu : xs[k]? = some u) : ∃ g off, a = some ⟨g, off, none⟩ ∧ g < w.heap.size ∧ ∀ j v, j < n → (cs u)[j]? = some v → w.cell? ⟨g, off + k * n + j, none⟩ = some v := by
  rcases h with h | ⟨g, off, e, hg, hc⟩
  · rw [List.map_eq_nil_iff.1 h] at hu; cases hu
  · exact ⟨g, off, e, hg, fun j v hj hv => hc k (cs u) (by rw [List.getElem?_map, hu]; rfl) j v hj hv⟩
def cntRR (x : RulesS) (k : Nat) : Nat := match k with | 1 => x.n0 | 2 => x.n1 | 3 => x.n2 | 4 => x.n3 | 5 => x.n4 | _ => 0
set_option maxHeartbeats 1600000 in
theorem countRR_any {w : World} (x : RulesS) (k : Nat) (h1 : 1 ≤ k) (h5 : k ≤ 5) :
    Calls Try.prog 19 #[.agg x.cs, .int .u8 k] w fun e w' => e = .returned (.int .i64 (cntRR x k)) ∧ Below w.heap.size w w' := by
  have hb : Below w.heap.size w (w.alloc (.cells #[.slice x.a0 x.n0 x.c0, .slice x.a1 x.n1 x.c1, .slice x.a2 x.n2 x.c2, .slice x.a3 x.n3 x.c3, .slice x.a4 x.n4 x.c4] 28)) := (Below.refl _ _).alloc (Nat.le_refl _) _
  have HB := Lib.hid hb
  unfold RulesS.cs
  have hk : k = 1 ∨ k = 2 ∨ k = 3 ∨ k = 4 ∨ k = 5 := by omega
  rcases hk with rfl | rfl | rfl | rfl | rfl
  all_goals
    go_enter Try.func19, Try.ntmps19
    go_wp2_with (fail)
    go_ret
    exact ⟨rfl, hb⟩
set_option maxHeartbeats 12800000 in
set_option maxRecDepth 40000 in
theorem r7same_any {w : World} (x y : RulesS) (hx : RulesAt w x) (hy : RulesAt w y) :
    Calls Try.prog 7 #[.agg x.cs, .agg y.cs] w (Tells (SameRR x y) w) := by
  have HRX := Lib.hid hx
  have HRY := Lib.hid hy
  clear hx hy
  obtain ⟨N, hN⟩ : ∃ N, w.heap.size = N := ⟨_, rfl⟩
  have h0 : ((w.alloc (.cells #[.slice x.a0 x.n0 x.c0, .slice x.a1 x.n1 x.c1, .slice x.a2 x.n2 x.c2, .slice x.a3 x.n3 x.c3, .slice x.a4 x.n4 x.c4] 28)).alloc (.cells #[.slice y.a0 y.n0 y.c0, .slice y.a1 y.n1 y.c1, .slice y.a2 y.n2 y.c2, .slice y.a3 y.n3 y.c3, .slice y.a4 y.n4 y.c4] 28)).heap[N]? = some (.cells #[.slice x.a0 x.n0 x.c0, .slice x.a1 x.n1 x.c1, .slice x.a2 x.n2 x.c2, .slice x.a3 x.n3 x.c3, .slice x.a4 x.n4 x.c4] 28) := by rw [get_allocC, if_neg (by rw [World.size_alloc]; omega), get_allocC, if_pos hN.symm]
  have h1 : ((w.alloc (.cells #[.slice x.a0 x.n0 x.c0, .slice x.a1 x.n1 x.c1, .slice x.a2 x.n2 x.c2, .slice x.a3 x.n3 x.c3, .slice x.a4 x.n4 x.c4] 28)).alloc (.cells #[.slice y.a0 y.n0 y.c0, .slice y.a1 y.n1 y.c1, .slice y.a2 y.n2 y.c2, .slice y.a3 y.n3 y.c3, .slice y.a4 y.n4 y.c4] 28)).heap[N + 1]? = some (.cells #[.slice y.a0 y.n0 y.c0, .slice y.a1 y.n1 y.c1, .slice y.a2 y.n2 y.c2, .slice y.a3 y.n3 y.c3, .slice y.a4 y.n4 y.c4] 28) := by rw [get_allocC, if_pos (by rw [World.size_alloc]; omega)]
  have HB := Lib.hid (show Below w.heap.size w ((w.alloc (.cells #[.slice x.a0 x.n0 x.c0, .slice x.a1 x.n1 x.c1, .slice x.a2 x.n2 x.c2, .slice x.a3 x.n3 x.c3, .slice x.a4 x.n4 x.c4] 28)).alloc (.cells #[.slice y.a0 y.n0 y.c0, .slice y.a1 y.n1 y.c1, .slice y.a2 y.n2 y.c2, .slice y.a3 y.n3 y.c3, .slice y.a4 y.n4 y.c4] 28)) from ((Below.refl _ _).alloc (Nat.le_refl _) _).alloc (by simp) _)
  have HCX := Lib.hid (fun (wx : World) k h1 h5 => countRR_any (w := wx) x k h1 h5)
  have HCY := Lib.hid (fun (wx : World) k h1 h5 => countRR_any (w := wx) y k h1 h5)
  unfold RulesS.cs at HCX HCY ⊢
  obtain ⟨w0, hw0⟩ : ∃ w0, (w.alloc (.cells #[.slice x.a0 x.n0 x.c0, .slice x.a1 x.n1 x.c1, .slice x.a2 x.n2 x.c2, .slice x.a3 x.n3 x.c3, .slice x.a4 x.n4 x.c4] 28)).alloc (.cells #[.slice y.a0 y.n0 y.c0, .slice y.a1 y.n1 y.c1, .slice y.a2 y.n2 y.c2, .slice y.a3 y.n3 y.c3, .slice y.a4 y.n4 y.c4] 28) = w0 := ⟨_, rfl⟩
  rw [hw0] at HB h0 h1
  have D0 := Lib.hid (show w0.cell? ⟨N, 0, none⟩ = some (.slice x.a0 x.n0 x.c0) by simp only [World.cell?, h0]; rfl)
  have D1 := Lib.hid (show w0.cell? ⟨N, 1, none⟩ = some (.slice x.a1 x.n1 x.c1) by simp only [World.cell?, h0]; rfl)
  have D2 := Lib.hid (show w0.cell? ⟨N, 2, none⟩ = some (.slice x.a2 x.n2 x.c2) by simp only [World.cell?, h0]; rfl)
  have D3 := Lib.hid (show w0.cell? ⟨N, 3, none⟩ = some (.slice x.a3 x.n3 x.c3) by simp only [World.cell?, h0]; rfl)
  have D4 := Lib.hid (show w0.cell? ⟨N, 4, none⟩ = some (.slice x.a4 x.n4 x.c4) by simp only [World.cell?, h0]; rfl)
  have E0 := Lib.hid (show w0.cell? ⟨N + 1, 0, none⟩ = some (.slice y.a0 y.n0 y.c0) by simp only [World.cell?, h1]; rfl)
  have E1 := Lib.hid (show w0.cell? ⟨N + 1, 1, none⟩ = some (.slice y.a1 y.n1 y.c1) by simp only [World.cell?, h1]; rfl)
  have E2 := Lib.hid (show w0.cell? ⟨N + 1, 2, none⟩ = some (.slice y.a2 y.n2 y.c2) by simp only [World.cell?, h1]; rfl)
  have E3 := Lib.hid (show w0.cell? ⟨N + 1, 3, none⟩ = some (.slice y.a3 y.n3 y.c3) by simp only [World.cell?, h1]; rfl)
  have E4 := Lib.hid (show w0.cell? ⟨N + 1, 4, none⟩ = some (.slice y.a4 y.n4 y.c4) by simp only [World.cell?, h1]; rfl)
  have HNZ := Lib.hid (show N < w0.heap.size ∧ N + 1 < w0.heap.size from ⟨(Array.getElem?_eq_some_iff.1 h0).1, (Array.getElem?_eq_some_iff.1 h1).1⟩)
  have HSX := Lib.hid (show ∀ wx, Below w0.heap.size w0 wx → (fun wx => wx.cell? ⟨N, 0, none⟩ = some (.slice x.a0 x.n0 x.c0) ∧ wx.cell? ⟨N, 1, none⟩ = some (.slice x.a1 x.n1 x.c1) ∧ wx.cell? ⟨N, 2, none⟩ = some (.slice x.a2 x.n2 x.c2) ∧ wx.cell? ⟨N, 3, none⟩ = some (.slice x.a3 x.n3 x.c3) ∧ wx.cell? ⟨N, 4, none⟩ = some (.slice x.a4 x.n4 x.c4) ∧ wx.cell? ⟨N + 1, 0, none⟩ = some (.slice y.a0 y.n0 y.c0) ∧ wx.cell? ⟨N + 1, 1, none⟩ = some (.slice y.a1 y.n1 y.c1) ∧ wx.cell? ⟨N + 1, 2, none⟩ = some (.slice y.a2 y.n2 y.c2) ∧ wx.cell? ⟨N + 1, 3, none⟩ = some (.slice y.a3 y.n3 y.c3) ∧ wx.cell? ⟨N + 1, 4, none⟩ = some (.slice y.a4 y.n4 y.c4)) wx from fun wx hb => ⟨(hb.cell (p := ⟨N, 0, none⟩) HNZ.out.1).trans D0.out, (hb.cell (p := ⟨N, 1, none⟩) HNZ.out.1).trans D1.out, (hb.cell (p := ⟨N, 2, none⟩) HNZ.out.1).trans D2.out, (hb.cell (p := ⟨N, 3, none⟩) HNZ.out.1).trans D3.out, (hb.cell (p := ⟨N, 4, none⟩) HNZ.out.1).trans D4.out, (hb.cell (p := ⟨N + 1, 0, none⟩) HNZ.out.2).trans E0.out, (hb.cell (p := ⟨N + 1, 1, none⟩) HNZ.out.2).trans E1.out, (hb.cell (p := ⟨N + 1, 2, none⟩) HNZ.out.2).trans E2.out, (hb.cell (p := ⟨N + 1, 3, none⟩) HNZ.out.2).trans E3.out, (hb.cell (p := ⟨N + 1, 4, none⟩) HNZ.out.2).trans E4.out⟩)
  have HW0 := Lib.hid (Below.refl w0.heap.size w0)
  clear h0 h1
  go_enter Try.func7, Try.ntmps7
  go_wp2_with (fail)
  clear hw0 hN
  go_loopw [5] (fun i wr => ∃ j : Nat, 1 ≤ j ∧ j ≤ 6 ∧ i = .int .u8 j ∧ Hid (∀ i, 1 ≤ i → i < j → cntRR x i = cntRR y i) ∧ Hid (Below w0.heap.size w0 wr)) (fun i _ => 6 - (intOf i).toNat)
  case atStart => exact ⟨1, Nat.le_refl _, by omega, rfl, Lib.hid (fun i h1 h2 => by omega), HW0⟩
  case round =>
    clear HW0
    rename World => wr
    obtain ⟨j, hj1, hj6, rfl, HE, HW⟩ := hrel
    by_cases hj5 : j ≤ 5
    · have k0 : (0 : Int) ≤ j := by omega
      have k1 : (j : Int) ≤ 5 := by omega
      go_wp2_with (fail)
      refine wp_region_noPanic ?_
      refine wp_region_held_drew (S := (fun wx => wx.cell? ⟨N, 0, none⟩ = some (.slice x.a0 x.n0 x.c0) ∧ wx.cell? ⟨N, 1, none⟩ = some (.slice x.a1 x.n1 x.c1) ∧ wx.cell? ⟨N, 2, none⟩ = some (.slice x.a2 x.n2 x.c2) ∧ wx.cell? ⟨N, 3, none⟩ = some (.slice x.a3 x.n3 x.c3) ∧ wx.cell? ⟨N, 4, none⟩ = some (.slice x.a4 x.n4 x.c4) ∧ wx.cell? ⟨N + 1, 0, none⟩ = some (.slice y.a0 y.n0 y.c0) ∧ wx.cell? ⟨N + 1, 1, none⟩ = some (.slice y.a1 y.n1 y.c1) ∧ wx.cell? ⟨N + 1, 2, none⟩ = some (.slice y.a2 y.n2 y.c2) ∧ wx.cell? ⟨N + 1, 3, none⟩ = some (.slice y.a3 y.n3 y.c3) ∧ wx.cell? ⟨N + 1, 4, none⟩ = some (.slice y.a4 y.n4 y.c4))) (by kernel_rfl) ?_ (fun hHeld => ?_)
      · exact HSX.out _ (below_drewF HW.out 1)
      refine wpAnyH_take (i := 0) (v := ?_) rfl (by kernel_rfl) (by kernel_rfl) (by kernel_rfl) (fun _ _ _ h => h) (Or.inl ⟨by rfl, ?hy⟩) (by assumption) ?_
      case hy => intro w hSw; (try dsimp only at hSw); go_simp; try with_reducible rfl
      try simp only [Act.put, List.getElem_toArray, List.getElem_cons_succ, List.getElem_cons_zero, List.setIfInBounds_toArray, List.set_cons_zero, List.set_cons_succ]
      refine wpAnyH_take (i := 1) (v := ?_) rfl (by kernel_rfl) (by kernel_rfl) (by kernel_rfl) (fun _ _ _ h => h) (Or.inl ⟨by rfl, ?hy⟩) (by assumption) ?_
      case hy => intro w hSw; (try dsimp only at hSw); go_simp; try with_reducible rfl
      try simp only [Act.put, List.getElem_toArray, List.getElem_cons_succ, List.getElem_cons_zero, List.setIfInBounds_toArray, List.set_cons_zero, List.set_cons_succ]
      refine wpAnyH_take (i := 3) (v := ?_) rfl (by kernel_rfl) (by kernel_rfl) (by kernel_rfl) (fun _ _ _ h => h) (Or.inl ⟨by rfl, ?hy⟩) (by assumption) ?_
      case hy => intro w hSw; (try dsimp only at hSw); go_simp; try with_reducible rfl
      try simp only [Act.put, List.getElem_toArray, List.getElem_cons_succ, List.getElem_cons_zero, List.setIfInBounds_toArray, List.set_cons_zero, List.set_cons_succ]
      refine wpAnyH_take (i := 4) (v := ?_) rfl (by kernel_rfl) (by kernel_rfl) (by kernel_rfl) (fun _ _ _ h => h) (Or.inl ⟨by rfl, ?hy⟩) (by assumption) ?_
      case hy => intro w hSw; (try dsimp only at hSw); go_simp; try with_reducible rfl
      try simp only [Act.put, List.getElem_toArray, List.getElem_cons_succ, List.getElem_cons_zero, List.setIfInBounds_toArray, List.set_cons_zero, List.set_cons_succ]
      refine wpAnyH_ready (rs := [2]) (by kernel_rfl) (by simp) (AllReadyH.cons rfl (fun K hK => ?_) AllReadyH.nil)
      go_simp
      go_at_call 19; refine (HCX.out _ j hj1 hj5).mono ?_; rintro e w3 ⟨rfl, hb3⟩
      have HB3 := Lib.hid (show Below w0.heap.size w0 w3 from HW.out.trans (((Below.refl _ _).drew.trans hb3).mono HW.out.size))
      try (go_wp2_with fail)
      refine hK.out _ _ ?_ (fun hHeld => ?_)
      · exact HSX.out _ HB3.out
      clear hK K
      try simp only [Act.put, List.getElem_toArray, List.getElem_cons_succ, List.getElem_cons_zero, List.setIfInBounds_toArray, List.set_cons_zero, List.set_cons_succ]
      refine wpAnyH_ready (rs := [5]) (by kernel_rfl) (by simp) (AllReadyH.cons rfl (fun K hK => ?_) AllReadyH.nil)
      go_simp
      go_at_call 19; refine (HCY.out _ j hj1 hj5).mono ?_; rintro e w4 ⟨rfl, hb4⟩
      have HB4 := Lib.hid (show Below w0.heap.size w0 w4 from HB3.out.trans (hb4.mono HB3.out.size))
      try (go_wp2_with fail)
      refine hK.out _ _ ?_ (fun hHeld => ?_)
      · exact HSX.out _ HB4.out
      clear hK K
      try simp only [Act.put, List.getElem_toArray, List.getElem_cons_succ, List.getElem_cons_zero, List.setIfInBounds_toArray, List.set_cons_zero, List.set_cons_succ]
      refine wpAnyH_take (i := 6) (v := ?_) rfl (by kernel_rfl) (by kernel_rfl) (by kernel_rfl) (fun _ _ _ h => h) (Or.inl ⟨by rfl, ?hy⟩) (by assumption) ?_
      case hy => intro w hSw; (try dsimp only at hSw); go_simp; try with_reducible rfl
      try simp only [Act.put, List.getElem_toArray, List.getElem_cons_succ, List.getElem_cons_zero, List.setIfInBounds_toArray, List.set_cons_zero, List.set_cons_succ]
      refine wpAnyH_done (by kernel_rfl) ?_ _
      refine NoPanic.normal ?_
      clear hHeld
      by_cases hc : cntRR x j = cntRR y j
      · have hc' : ((cntRR x j : Nat) : Int) = (cntRR y j : Nat) := by rw [hc]
        have HC := Lib.hid hc
        clear hc
        go_wp2_with (fail)
        exact ⟨⟨j + 1, by omega, by omega, by go_num, Lib.hid (fun i h1 h2 => by
          by_cases h : i = j
          · subst h; exact HC.out
          · exact HE.out i h1 (by omega)), HB4⟩, by first | (simp [intOf]; done) | (simp [intOf]; omega)⟩
      · have hc' : ¬ ((cntRR x j : Nat) : Int) = (cntRR y j : Nat) := by omega
        have HC := Lib.hid hc
        clear hc
        go_wp2_with (fail)
        go_ret
        refine ⟨⟨false, rfl, fun h => absurd h (by decide), fun h => ?_⟩, HB.out.trans (HB4.out.mono HB.out.size)⟩
        refine absurd ?_ HC.out
        have e0 : x.n0 = y.n0 := by rw [← HRX.out.l0, ← HRY.out.l0, h.fl]
        have e1 : x.n1 = y.n1 := by rw [← HRX.out.l1, ← HRY.out.l1, h.br]
        have e2 : x.n2 = y.n2 := by have := congrArg List.length h.ho; rwa [List.length_map, List.length_map, HRX.out.l2, HRY.out.l2] at this
        have e3 : x.n3 = y.n3 := by rw [← HRX.out.l3, ← HRY.out.l3, h.sy]
        have e4 : x.n4 = y.n4 := by have := congrArg List.length h.au; rwa [List.length_map, List.length_map, HRX.out.l4, HRY.out.l4] at this
        unfold cntRR
        split <;> first | assumption | rfl
    · have k1 : ¬ (j : Int) ≤ 5 := by omega
      have HN0 := Lib.hid (show x.n0 = y.n0 from HE.out 1 (by omega) (by omega))
      have HN1 := Lib.hid (show x.n1 = y.n1 from HE.out 2 (by omega) (by omega))
      have HN2 := Lib.hid (show x.n2 = y.n2 from HE.out 3 (by omega) (by omega))
      have HN3 := Lib.hid (show x.n3 = y.n3 from HE.out 4 (by omega) (by omega))
      have HN4 := Lib.hid (show x.n4 = y.n4 from HE.out 5 (by omega) (by omega))
      have HW0 := HW
      clear HW HE HCX HCY
      go_wp2_with (fail)
      go_loopw [6] (fun i wr => ∃ k : Nat, k ≤ x.n0 ∧ i = .int .i64 k ∧ Hid (∀ j, j < k → x.fl[j]? = y.fl[j]?) ∧ Hid (Below w0.heap.size w0 wr)) (fun i _ => x.n0 - (intOf i).toNat)
      case atStart => exact ⟨0, Nat.zero_le _, rfl, Lib.hid (fun j h => by omega), HW0⟩
      case round =>
        clear HW0
        rename World => wr
        obtain ⟨k, hk, rfl, HE, HW⟩ := hrel
        have hnb : x.n0 ≤ 140737488351232 := by have := HRX.out.s0; omega
        have d0 := (HW.out.cell (p := ⟨N, 0, none⟩) HNZ.out.1).trans D0.out
        have e0 := (HW.out.cell (p := ⟨N + 1, 0, none⟩) HNZ.out.2).trans E0.out
        by_cases hlt : k < x.n0
        · have k0 : (0 : Int) ≤ k := by omega
          have k1 : (k : Int) < x.n0 := by omega
          have k2 : (k : Int) < y.n0 := by have := HN0.out; omega
          obtain ⟨u, hu⟩ : ∃ u, x.fl[k]? = some u := ⟨_, List.getElem?_eq_getElem (by rw [HRX.out.l0]; exact hlt)⟩
          obtain ⟨v, hv⟩ : ∃ v, y.fl[k]? = some v := ⟨_, List.getElem?_eq_getElem (by rw [HRY.out.l0]; have := HN0.out; omega)⟩
          have HXX := Lib.hid hu
          have HYY := Lib.hid hv
          have HW9 := Lib.hid (HB.out.trans (HW.out.mono HB.out.size))
          obtain ⟨g, off, hga, hg, hc⟩ := RowsAt.get (HRX.out.fl.rows) hu
          obtain ⟨g', off', hga', hg', hc'⟩ := RowsAt.get (HRY.out.fl.rows) hv
          rw [hga] at d0
          rw [hga'] at e0
          have a0 := (HW9.out.cell (p := ⟨g, off + k * 12 + 0, none⟩) hg).trans (hc 0 (.string u.res) (by decide) rfl)
          have b0 := (HW9.out.cell (p := ⟨g', off' + k * 12 + 0, none⟩) hg').trans (hc' 0 (.string v.res) (by decide) rfl)
          have a1 := (HW9.out.cell (p := ⟨g, off + k * 12 + 1, none⟩) hg).trans (hc 1 (.string u.org) (by decide) rfl)
          have b1 := (HW9.out.cell (p := ⟨g', off' + k * 12 + 1, none⟩) hg').trans (hc' 1 (.string v.org) (by decide) rfl)
          have a2 := (HW9.out.cell (p := ⟨g, off + k * 12 + 2, none⟩) hg).trans (hc 2 (.bool u.thr) (by decide) rfl)
          have b2 := (HW9.out.cell (p := ⟨g', off' + k * 12 + 2, none⟩) hg').trans (hc' 2 (.bool v.thr) (by decide) rfl)
          have a3 := (HW9.out.cell (p := ⟨g, off + k * 12 + 3, none⟩) hg).trans (hc 3 (.int .i64 u.cnt) (by decide) rfl)
          have b3 := (HW9.out.cell (p := ⟨g', off' + k * 12 + 3, none⟩) hg').trans (hc' 3 (.int .i64 v.cnt) (by decide) rfl)
          have a4 := (HW9.out.cell (p := ⟨g, off + k * 12 + 4, none⟩) hg).trans (hc 4 (.int .u8 u.strat) (by decide) rfl)
          have b4 := (HW9.out.cell (p := ⟨g', off' + k * 12 + 4, none⟩) hg').trans (hc' 4 (.int .u8 v.strat) (by decide) rfl)
          have a5 := (HW9.out.cell (p := ⟨g, off + k * 12 + 5, none⟩) hg).trans (hc 5 (.string u.ref) (by decide) rfl)
          have b5 := (HW9.out.cell (p := ⟨g', off' + k * 12 + 5, none⟩) hg').trans (hc' 5 (.string v.ref) (by decide) rfl)
          have a6 := (HW9.out.cell (p := ⟨g, off + k * 12 + 6, none⟩) hg).trans (hc 6 (.int .u8 u.shape) (by decide) rfl)
          have b6 := (HW9.out.cell (p := ⟨g', off' + k * 12 + 6, none⟩) hg').trans (hc' 6 (.int .u8 v.shape) (by decide) rfl)
          have a7 := (HW9.out.cell (p := ⟨g, off + k * 12 + 7, none⟩) hg).trans (hc 7 (.int .i64 u.warm) (by decide) rfl)
          have b7 := (HW9.out.cell (p := ⟨g', off' + k * 12 + 7, none⟩) hg').trans (hc' 7 (.int .i64 v.warm) (by decide) rfl)
          have a8 := (HW9.out.cell (p := ⟨g, off + k * 12 + 8, none⟩) hg).trans (hc 8 (.int .i64 u.queue) (by decide) rfl)
          have b8 := (HW9.out.cell (p := ⟨g', off' + k * 12 + 8, none⟩) hg').trans (hc' 8 (.int .i64 v.queue) (by decide) rfl)
          have a9 := (HW9.out.cell (p := ⟨g, off + k * 12 + 9, none⟩) hg).trans (hc 9 (.bool u.cl) (by decide) rfl)
          have b9 := (HW9.out.cell (p := ⟨g', off' + k * 12 + 9, none⟩) hg').trans (hc' 9 (.bool v.cl) (by decide) rfl)
          have a10 := (HW9.out.cell (p := ⟨g, off + k * 12 + 10, none⟩) hg).trans (hc 10 (.int .i64 u.id) (by decide) rfl)
          have b10 := (HW9.out.cell (p := ⟨g', off' + k * 12 + 10, none⟩) hg').trans (hc' 10 (.int .i64 v.id) (by decide) rfl)
          have a11 := (HW9.out.cell (p := ⟨g, off + k * 12 + 11, none⟩) hg).trans (hc 11 (.bool u.fb) (by decide) rfl)
          have b11 := (HW9.out.cell (p := ⟨g', off' + k * 12 + 11, none⟩) hg').trans (hc' 11 (.bool v.fb) (by decide) rfl)
          rw [Nat.add_zero] at a0 b0
          have hN := fun w => neqFl_run u v w
          generalize hBq : eqFlB u v = B at hN
          have HBB := Lib.hid (show B = true ↔ u = v by rw [← hBq]; exact eqFlB_iff u v)
          clear hBq hc hc' hg hg' hu hv hga hga'
          cases B with
          | true =>
            go_wp2_with (fail)
            go_quiet (fail)
            have HBN := Lib.hid (show Below w0.heap.size w0 (wr.drewN nq) from below_drewF HW.out nq)
            generalize wr.drewN nq = wz at HBN ⊢
            clear a0 b0 a1 b1 a2 b2 a3 b3 a4 b4 a5 b5 a6 b6 a7 b7 a8 b8 a9 b9 a10 b10 a11 b11 hN d0 e0
            go_wp2_with (fail)
            exact ⟨⟨k + 1, by omega, by go_num, Lib.hid (fun j hj => by
              by_cases h : j = k
              · subst h; rw [HXX.out, HYY.out, HBB.out.1 (by trivial)]
              · exact HE.out j (by omega)), HBN⟩, by first | (simp [intOf]; done) | (simp [intOf]; omega)⟩
          | false =>
            go_wp2_with (fail)
            go_quiet (fail)
            have HBN := Lib.hid (show Below w0.heap.size w0 (wr.drewN nq) from below_drewF HW.out nq)
            generalize wr.drewN nq = wz at HBN ⊢
            clear a0 b0 a1 b1 a2 b2 a3 b3 a4 b4 a5 b5 a6 b6 a7 b7 a8 b8 a9 b9 a10 b10 a11 b11 hN d0 e0
            go_wp2_with (fail)
            go_ret
            refine ⟨⟨false, rfl, fun h => absurd h (by decide), fun h => ?_⟩, HB.out.trans (HBN.out.mono HB.out.size)⟩
            have h1 := HXX.out
            rw [h.fl, HYY.out] at h1
            exact absurd (HBB.out.2 (Option.some.inj h1).symm) (by decide)
        · have k1 : ¬ (k : Int) < x.n0 := by omega
          have HF0 := Lib.hid (show x.fl = y.fl from List.ext_getElem? (fun j => by
            by_cases h : j < k
            · exact HE.out j h
            · rw [List.getElem?_eq_none (by rw [HRX.out.l0]; omega), List.getElem?_eq_none (by rw [HRY.out.l0]; have := HN0.out; omega)]))
          have HW1 := HW
          clear HW HE
          go_wp2_with (fail)
          go_loopw [7] (fun i wr => ∃ k : Nat, k ≤ x.n1 ∧ i = .int .i64 k ∧ Hid (∀ j, j < k → x.br[j]? = y.br[j]?) ∧ Hid (Below w0.heap.size w0 wr)) (fun i _ => x.n1 - (intOf i).toNat)
          case atStart => exact ⟨0, Nat.zero_le _, rfl, Lib.hid (fun j h => by omega), HW1⟩
          case round =>
            clear HW1
            rename World => wr
            obtain ⟨k, hk, rfl, HE, HW⟩ := hrel
            have hnb : x.n1 ≤ 140737488351232 := by have := HRX.out.s1; omega
            have d1 := (HW.out.cell (p := ⟨N, 1, none⟩) HNZ.out.1).trans D1.out
            have e1 := (HW.out.cell (p := ⟨N + 1, 1, none⟩) HNZ.out.2).trans E1.out
            by_cases hlt : k < x.n1
            · have k0 : (0 : Int) ≤ k := by omega
              have k1 : (k : Int) < x.n1 := by omega
              have k2 : (k : Int) < y.n1 := by have := HN1.out; omega
              obtain ⟨u, hu⟩ : ∃ u, x.br[k]? = some u := ⟨_, List.getElem?_eq_getElem (by rw [HRX.out.l1]; exact hlt)⟩
              obtain ⟨v, hv⟩ : ∃ v, y.br[k]? = some v := ⟨_, List.getElem?_eq_getElem (by rw [HRY.out.l1]; have := HN1.out; omega)⟩
              have HXX := Lib.hid hu
              have HYY := Lib.hid hv
              have HW9 := Lib.hid (HB.out.trans (HW.out.mono HB.out.size))
              obtain ⟨g, off, hga, hg, hc⟩ := RowsAt.get (HRX.out.br) hu
              obtain ⟨g', off', hga', hg', hc'⟩ := RowsAt.get (HRY.out.br) hv
              rw [hga] at d1
              rw [hga'] at e1
              have a0 := (HW9.out.cell (p := ⟨g, off + k * 7 + 0, none⟩) hg).trans (hc 0 (.string u.res) (by decide) rfl)
              have b0 := (HW9.out.cell (p := ⟨g', off' + k * 7 + 0, none⟩) hg').trans (hc' 0 (.string v.res) (by decide) rfl)
              have a1 := (HW9.out.cell (p := ⟨g, off + k * 7 + 1, none⟩) hg).trans (hc 1 (.int .u8 u.gr) (by decide) rfl)
              have b1 := (HW9.out.cell (p := ⟨g', off' + k * 7 + 1, none⟩) hg').trans (hc' 1 (.int .u8 v.gr) (by decide) rfl)
              have a2 := (HW9.out.cell (p := ⟨g, off + k * 7 + 2, none⟩) hg).trans (hc 2 (.int .i64 u.cnt) (by decide) rfl)
              have b2 := (HW9.out.cell (p := ⟨g', off' + k * 7 + 2, none⟩) hg').trans (hc' 2 (.int .i64 v.cnt) (by decide) rfl)
              have a3 := (HW9.out.cell (p := ⟨g, off + k * 7 + 3, none⟩) hg).trans (hc 3 (.int .i64 u.slow) (by decide) rfl)
              have b3 := (HW9.out.cell (p := ⟨g', off' + k * 7 + 3, none⟩) hg').trans (hc' 3 (.int .i64 v.slow) (by decide) rfl)
              have a4 := (HW9.out.cell (p := ⟨g, off + k * 7 + 4, none⟩) hg).trans (hc 4 (.int .i64 u.least) (by decide) rfl)
              have b4 := (HW9.out.cell (p := ⟨g', off' + k * 7 + 4, none⟩) hg').trans (hc' 4 (.int .i64 v.least) (by decide) rfl)
              have a5 := (HW9.out.cell (p := ⟨g, off + k * 7 + 5, none⟩) hg).trans (hc 5 (.int .i64 u.win) (by decide) rfl)
              have b5 := (HW9.out.cell (p := ⟨g', off' + k * 7 + 5, none⟩) hg').trans (hc' 5 (.int .i64 v.win) (by decide) rfl)
              have a6 := (HW9.out.cell (p := ⟨g, off + k * 7 + 6, none⟩) hg).trans (hc 6 (.int .i64 u.rec_) (by decide) rfl)
              have b6 := (HW9.out.cell (p := ⟨g', off' + k * 7 + 6, none⟩) hg').trans (hc' 6 (.int .i64 v.rec_) (by decide) rfl)
              rw [Nat.add_zero] at a0 b0
              have hN := fun w => neqBr_run u v w
              generalize hBq : eqBrB u v = B at hN
              have HBB := Lib.hid (show B = true ↔ u = v by rw [← hBq]; exact eqBrB_iff u v)
              clear hBq hc hc' hg hg' hu hv hga hga'
              cases B with
              | true =>
                go_wp2_with (fail)
                go_quiet (fail)
                have HBN := Lib.hid (show Below w0.heap.size w0 (wr.drewN nq) from below_drewF HW.out nq)
                generalize wr.drewN nq = wz at HBN ⊢
                clear a0 b0 a1 b1 a2 b2 a3 b3 a4 b4 a5 b5 a6 b6 hN d1 e1
                go_wp2_with (fail)
                exact ⟨⟨k + 1, by omega, by go_num, Lib.hid (fun j hj => by
                  by_cases h : j = k
                  · subst h; rw [HXX.out, HYY.out, HBB.out.1 (by trivial)]
                  · exact HE.out j (by omega)), HBN⟩, by first | (simp [intOf]; done) | (simp [intOf]; omega)⟩
              | false =>
                go_wp2_with (fail)
                go_quiet (fail)
                have HBN := Lib.hid (show Below w0.heap.size w0 (wr.drewN nq) from below_drewF HW.out nq)
                generalize wr.drewN nq = wz at HBN ⊢
                clear a0 b0 a1 b1 a2 b2 a3 b3 a4 b4 a5 b5 a6 b6 hN d1 e1
                go_wp2_with (fail)
                go_ret
                refine ⟨⟨false, rfl, fun h => absurd h (by decide), fun h => ?_⟩, HB.out.trans (HBN.out.mono HB.out.size)⟩
                have h1 := HXX.out
                rw [h.br, HYY.out] at h1
                exact absurd (HBB.out.2 (Option.some.inj h1).symm) (by decide)
            · have k1 : ¬ (k : Int) < x.n1 := by omega
              have HF1 := Lib.hid (show x.br = y.br from List.ext_getElem? (fun j => by
                by_cases h : j < k
                · exact HE.out j h
                · rw [List.getElem?_eq_none (by rw [HRX.out.l1]; omega), List.getElem?_eq_none (by rw [HRY.out.l1]; have := HN1.out; omega)]))
              have HW2 := HW
              clear HW HE
              go_wp2_with (fail)
              go_loopw [8] (fun i wr => ∃ k : Nat, k ≤ x.n2 ∧ i = .int .i64 k ∧ Hid (∀ j, j < k → (x.ho.map hK)[j]? = (y.ho.map hK)[j]?) ∧ Hid (Below w0.heap.size w0 wr)) (fun i _ => x.n2 - (intOf i).toNat)
              case atStart => exact ⟨0, Nat.zero_le _, rfl, Lib.hid (fun j h => by omega), HW2⟩
              case round =>
                clear HW2
                rename World => wr
                obtain ⟨k, hk, rfl, HE, HW⟩ := hrel
                have hnb : x.n2 ≤ 140737488351232 := by have := HRX.out.s2; omega
                have d2 := (HW.out.cell (p := ⟨N, 2, none⟩) HNZ.out.1).trans D2.out
                have e2 := (HW.out.cell (p := ⟨N + 1, 2, none⟩) HNZ.out.2).trans E2.out
                by_cases hlt : k < x.n2
                · have k0 : (0 : Int) ≤ k := by omega
                  have k1 : (k : Int) < x.n2 := by omega
                  have k2 : (k : Int) < y.n2 := by have := HN2.out; omega
                  obtain ⟨u, hu⟩ : ∃ u, x.ho[k]? = some u := ⟨_, List.getElem?_eq_getElem (by rw [HRX.out.l2]; exact hlt)⟩
                  obtain ⟨v, hv⟩ : ∃ v, y.ho[k]? = some v := ⟨_, List.getElem?_eq_getElem (by rw [HRY.out.l2]; have := HN2.out; omega)⟩
                  have HXX := Lib.hid (show (x.ho.map hK)[k]? = some (hK u) by rw [List.getElem?_map, hu]; rfl)
                  have HYY := Lib.hid (show (y.ho.map hK)[k]? = some (hK v) by rw [List.getElem?_map, hv]; rfl)
                  have HW9 := Lib.hid (HB.out.trans (HW.out.mono HB.out.size))
                  obtain ⟨g, off, hga, hg, hc⟩ := RowsAt.get (HRX.out.ho) hu
                  obtain ⟨g', off', hga', hg', hc'⟩ := RowsAt.get (HRY.out.ho) hv
                  rw [hga] at d2
                  rw [hga'] at e2
                  have a0 := (HW9.out.cell (p := ⟨g, off + k * 5 + 0, none⟩) hg).trans (hc 0 (.string u.res) (by decide) rfl)
                  have b0 := (HW9.out.cell (p := ⟨g', off' + k * 5 + 0, none⟩) hg').trans (hc' 0 (.string v.res) (by decide) rfl)
                  have a1 := (HW9.out.cell (p := ⟨g, off + k * 5 + 1, none⟩) hg).trans (hc 1 (.int .i64 u.idx) (by decide) rfl)
                  have b1 := (HW9.out.cell (p := ⟨g', off' + k * 5 + 1, none⟩) hg').trans (hc' 1 (.int .i64 v.idx) (by decide) rfl)
                  have a2 := (HW9.out.cell (p := ⟨g, off + k * 5 + 2, none⟩) hg).trans (hc 2 (.int .i64 u.cnt) (by decide) rfl)
                  have b2 := (HW9.out.cell (p := ⟨g', off' + k * 5 + 2, none⟩) hg').trans (hc' 2 (.int .i64 v.cnt) (by decide) rfl)
                  have a3 := (HW9.out.cell (p := ⟨g, off + k * 5 + 3, none⟩) hg).trans (hc 3 (.int .i64 u.secs) (by decide) rfl)
                  have b3 := (HW9.out.cell (p := ⟨g', off' + k * 5 + 3, none⟩) hg').trans (hc' 3 (.int .i64 v.secs) (by decide) rfl)
                  have a4 := (HW9.out.cell (p := ⟨g, off + k * 5 + 4, none⟩) hg).trans (hc 4 (.slice u.ia u.il u.ic) (by decide) rfl)
                  have b4 := (HW9.out.cell (p := ⟨g', off' + k * 5 + 4, none⟩) hg').trans (hc' 4 (.slice v.ia v.il v.ic) (by decide) rfl)
                  rw [Nat.add_zero] at a0 b0
                  have HS7 := Lib.hid (show ∀ wx, Below wr.heap.size wr wx → (fun wx => wx.cell? ⟨N, 2, none⟩ = some (.slice (some ⟨g, off, none⟩) x.n2 x.c2) ∧ wx.cell? ⟨N + 1, 2, none⟩ = some (.slice (some ⟨g', off', none⟩) y.n2 y.c2) ∧ wx.cell? ⟨g, off + k * 5, none⟩ = some (.string u.res) ∧ wx.cell? ⟨g, off + k * 5 + 1, none⟩ = some (.int .i64 u.idx) ∧ wx.cell? ⟨g, off + k * 5 + 2, none⟩ = some (.int .i64 u.cnt) ∧ wx.cell? ⟨g, off + k * 5 + 3, none⟩ = some (.int .i64 u.secs) ∧ wx.cell? ⟨g, off + k * 5 + 4, none⟩ = some (.slice u.ia u.il u.ic) ∧ wx.cell? ⟨g', off' + k * 5, none⟩ = some (.string v.res) ∧ wx.cell? ⟨g', off' + k * 5 + 1, none⟩ = some (.int .i64 v.idx) ∧ wx.cell? ⟨g', off' + k * 5 + 2, none⟩ = some (.int .i64 v.cnt) ∧ wx.cell? ⟨g', off' + k * 5 + 3, none⟩ = some (.int .i64 v.secs) ∧ wx.cell? ⟨g', off' + k * 5 + 4, none⟩ = some (.slice v.ia v.il v.ic)) wx from fun wx hb => ⟨(hb.cell (p := ⟨N, 2, none⟩) (Nat.lt_of_lt_of_le HNZ.out.1 HW.out.size)).trans d2, (hb.cell (p := ⟨N + 1, 2, none⟩) (Nat.lt_of_lt_of_le HNZ.out.2 HW.out.size)).trans e2, (hb.cell (p := ⟨g, off + k * 5, none⟩) (Nat.lt_of_lt_of_le hg HW9.out.size)).trans a0, (hb.cell (p := ⟨g, off + k * 5 + 1, none⟩) (Nat.lt_of_lt_of_le hg HW9.out.size)).trans a1, (hb.cell (p := ⟨g, off + k * 5 + 2, none⟩) (Nat.lt_of_lt_of_le hg HW9.out.size)).trans a2, (hb.cell (p := ⟨g, off + k * 5 + 3, none⟩) (Nat.lt_of_lt_of_le hg HW9.out.size)).trans a3, (hb.cell (p := ⟨g, off + k * 5 + 4, none⟩) (Nat.lt_of_lt_of_le hg HW9.out.size)).trans a4, (hb.cell (p := ⟨g', off' + k * 5, none⟩) (Nat.lt_of_lt_of_le hg' HW9.out.size)).trans b0, (hb.cell (p := ⟨g', off' + k * 5 + 1, none⟩) (Nat.lt_of_lt_of_le hg' HW9.out.size)).trans b1, (hb.cell (p := ⟨g', off' + k * 5 + 2, none⟩) (Nat.lt_of_lt_of_le hg' HW9.out.size)).trans b2, (hb.cell (p := ⟨g', off' + k * 5 + 3, none⟩) (Nat.lt_of_lt_of_le hg' HW9.out.size)).trans b3, (hb.cell (p := ⟨g', off' + k * 5 + 4, none⟩) (Nat.lt_of_lt_of_le hg' HW9.out.size)).trans b4⟩)
                  have HSM := Lib.hid (fun (wx : World) (hb : Below w.heap.size w wx) => r7sameHot_any (w := wx) u v ((HRX.out.zh u (List.mem_of_getElem? hu)).below (Nat.le_refl _) hb) ((HRY.out.zh v (List.mem_of_getElem? hv)).below (Nat.le_refl _) hb))
                  clear hc hc' hg hg' hu hv hga hga'
                  go_wp2_with (fail)
                  refine wp_region_noPanic ?_
                  refine wp_region_held_drew (S := (fun wx => wx.cell? ⟨N, 2, none⟩ = some (.slice (some ⟨g, off, none⟩) x.n2 x.c2) ∧ wx.cell? ⟨N + 1, 2, none⟩ = some (.slice (some ⟨g', off', none⟩) y.n2 y.c2) ∧ wx.cell? ⟨g, off + k * 5, none⟩ = some (.string u.res) ∧ wx.cell? ⟨g, off + k * 5 + 1, none⟩ = some (.int .i64 u.idx) ∧ wx.cell? ⟨g, off + k * 5 + 2, none⟩ = some (.int .i64 u.cnt) ∧ wx.cell? ⟨g, off + k * 5 + 3, none⟩ = some (.int .i64 u.secs) ∧ wx.cell? ⟨g, off + k * 5 + 4, none⟩ = some (.slice u.ia u.il u.ic) ∧ wx.cell? ⟨g', off' + k * 5, none⟩ = some (.string v.res) ∧ wx.cell? ⟨g', off' + k * 5 + 1, none⟩ = some (.int .i64 v.idx) ∧ wx.cell? ⟨g', off' + k * 5 + 2, none⟩ = some (.int .i64 v.cnt) ∧ wx.cell? ⟨g', off' + k * 5 + 3, none⟩ = some (.int .i64 v.secs) ∧ wx.cell? ⟨g', off' + k * 5 + 4, none⟩ = some (.slice v.ia v.il v.ic))) (by kernel_rfl) ?_ (fun hHeld => ?_)
                  · exact HS7.out _ (Below.refl _ _).drew
                  refine wpAnyH_take (i := 0) (v := ?_) rfl (by kernel_rfl) (by kernel_rfl) (by kernel_rfl) (fun _ _ _ h => h) (Or.inl ⟨by rfl, ?hy⟩) (by assumption) ?_
                  case hy => intro w hSw; (try dsimp only at hSw); go_simp; try with_reducible rfl
                  try simp only [Act.put, List.getElem_toArray, List.getElem_cons_succ, List.getElem_cons_zero, List.setIfInBounds_toArray, List.set_cons_zero, List.set_cons_succ]
                  refine wpAnyH_take (i := 1) (v := ?_) rfl (by kernel_rfl) (by kernel_rfl) (by kernel_rfl) (fun _ _ _ h => h) (Or.inl ⟨by rfl, ?hy⟩) (by assumption) ?_
                  case hy => intro w hSw; (try dsimp only at hSw); go_simp; try with_reducible rfl
                  try simp only [Act.put, List.getElem_toArray, List.getElem_cons_succ, List.getElem_cons_zero, List.setIfInBounds_toArray, List.set_cons_zero, List.set_cons_succ]
                  refine wpAnyH_take (i := 2) (v := ?_) rfl (by kernel_rfl) (by kernel_rfl) (by kernel_rfl) (fun _ _ _ h => h) (Or.inl ⟨by rfl, ?hy⟩) (by assumption) ?_
                  case hy => intro w hSw; (try dsimp only at hSw); go_simp; try with_reducible rfl
                  try simp only [Act.put, List.getElem_toArray, List.getElem_cons_succ, List.getElem_cons_zero, List.setIfInBounds_toArray, List.set_cons_zero, List.set_cons_succ]
                  refine wpAnyH_take (i := 3) (v := ?_) rfl (by kernel_rfl) (by kernel_rfl) (by kernel_rfl) (fun _ _ _ h => h) (Or.inl ⟨by rfl, ?hy⟩) (by assumption) ?_
                  case hy => intro w hSw; (try dsimp only at hSw); go_simp; try with_reducible rfl
                  try simp only [Act.put, List.getElem_toArray, List.getElem_cons_succ, List.getElem_cons_zero, List.setIfInBounds_toArray, List.set_cons_zero, List.set_cons_succ]
                  refine wpAnyH_take (i := 4) (v := ?_) rfl (by kernel_rfl) (by kernel_rfl) (by kernel_rfl) (fun _ _ _ h => h) (Or.inl ⟨by rfl, ?hy⟩) (by assumption) ?_
                  case hy => intro w hSw; (try dsimp only at hSw); go_simp; try with_reducible rfl
                  try simp only [Act.put, List.getElem_toArray, List.getElem_cons_succ, List.getElem_cons_zero, List.setIfInBounds_toArray, List.set_cons_zero, List.set_cons_succ]
                  refine wpAnyH_take (i := 5) (v := ?_) rfl (by kernel_rfl) (by kernel_rfl) (by kernel_rfl) (fun _ _ _ h => h) (Or.inl ⟨by rfl, ?hy⟩) (by assumption) ?_
                  case hy => intro w hSw; (try dsimp only at hSw); go_simp; try with_reducible rfl
                  try simp only [Act.put, List.getElem_toArray, List.getElem_cons_succ, List.getElem_cons_zero, List.setIfInBounds_toArray, List.set_cons_zero, List.set_cons_succ]
                  refine wpAnyH_take (i := 6) (v := ?_) rfl (by kernel_rfl) (by kernel_rfl) (by kernel_rfl) (fun _ _ _ h => h) (Or.inl ⟨by rfl, ?hy⟩) (by assumption) ?_
                  case hy => intro w hSw; (try dsimp only at hSw); go_simp; try with_reducible rfl
                  try simp only [Act.put, List.getElem_toArray, List.getElem_cons_succ, List.getElem_cons_zero, List.setIfInBounds_toArray, List.set_cons_zero, List.set_cons_succ]
                  refine wpAnyH_take (i := 7) (v := ?_) rfl (by kernel_rfl) (by kernel_rfl) (by kernel_rfl) (fun _ _ _ h => h) (Or.inl ⟨by rfl, ?hy⟩) (by assumption) ?_
                  case hy => intro w hSw; (try dsimp only at hSw); go_simp; try with_reducible rfl
                  try simp only [Act.put, List.getElem_toArray, List.getElem_cons_succ, List.getElem_cons_zero, List.setIfInBounds_toArray, List.set_cons_zero, List.set_cons_succ]
                  refine wpAnyH_take (i := 8) (v := ?_) rfl (by kernel_rfl) (by kernel_rfl) (by kernel_rfl) (fun _ _ _ h => h) (Or.inl ⟨by rfl, ?hy⟩) (by assumption) ?_
                  case hy => intro w hSw; (try dsimp only at hSw); go_simp; try with_reducible rfl
                  try simp only [Act.put, List.getElem_toArray, List.getElem_cons_succ, List.getElem_cons_zero, List.setIfInBounds_toArray, List.set_cons_zero, List.set_cons_succ]
                  refine wpAnyH_take (i := 9) (v := ?_) rfl (by kernel_rfl) (by kernel_rfl) (by kernel_rfl) (fun _ _ _ h => h) (Or.inl ⟨by rfl, ?hy⟩) (by assumption) ?_
                  case hy => intro w hSw; (try dsimp only at hSw); go_simp; try with_reducible rfl
                  try simp only [Act.put, List.getElem_toArray, List.getElem_cons_succ, List.getElem_cons_zero, List.setIfInBounds_toArray, List.set_cons_zero, List.set_cons_succ]
                  refine wpAnyH_ready (rs := [10]) (by kernel_rfl) (by simp) (AllReadyH.cons rfl (fun K hK => ?_) AllReadyH.nil)
                  go_simp
                  go_at_call 20; refine (HSM.out _ (below_drewF HW9.out 1)).mono ?_; rintro e w3 ⟨⟨t, rfl, ht⟩, hb3⟩
                  have HT := Lib.hid ht
                  have HB3 := Lib.hid (show Below wr.heap.size wr w3 from (Below.refl _ _).drew.trans hb3)
                  clear ht hb3
                  try (go_wp2_with fail)
                  refine hK.out _ _ ?_ (fun hHeld => ?_)
                  · exact HS7.out _ HB3.out
                  clear hK K
                  try simp only [Act.put, List.getElem_toArray, List.getElem_cons_succ, List.getElem_cons_zero, List.setIfInBounds_toArray, List.set_cons_zero, List.set_cons_succ]
                  refine wpAnyH_take (i := 11) (v := ?_) rfl (by kernel_rfl) (by kernel_rfl) (by kernel_rfl) (fun _ _ _ h => h) (Or.inl ⟨by rfl, ?hy⟩) (by assumption) ?_
                  case hy => intro w hSw; (try dsimp only at hSw); go_simp; try with_reducible rfl
                  try simp only [Act.put, List.getElem_toArray, List.getElem_cons_succ, List.getElem_cons_zero, List.setIfInBounds_toArray, List.set_cons_zero, List.set_cons_succ]
                  refine wpAnyH_done (by kernel_rfl) ?_ _
                  refine NoPanic.normal ?_
                  have HBN := Lib.hid (show Below w0.heap.size w0 w3 from HW.out.trans (HB3.out.mono HW.out.size))
                  clear a0 b0 a1 b1 a2 b2 a3 b3 a4 b4 d2 e2 hHeld
                  cases t with
                  | true =>
                    go_wp2_with (fail)
                    exact ⟨⟨k + 1, by omega, by go_num, Lib.hid (fun j hj => by
                      by_cases h : j = k
                      · subst h; rw [HXX.out, HYY.out, HT.out.1 (by trivial)]
                      · exact HE.out j (by omega)), HBN⟩, by first | (simp [intOf]; done) | (simp [intOf]; omega)⟩
                  | false =>
                    go_wp2_with (fail)
                    go_ret
                    refine ⟨⟨false, rfl, fun h => absurd h (by decide), fun h => ?_⟩, HB.out.trans (HBN.out.mono HB.out.size)⟩
                    have h1 := HXX.out
                    rw [h.ho, HYY.out] at h1
                    exact absurd (HT.out.2 (Option.some.inj h1).symm) (by decide)
                · have k1 : ¬ (k : Int) < x.n2 := by omega
                  have HF2 := Lib.hid (show (x.ho.map hK) = (y.ho.map hK) from List.ext_getElem? (fun j => by
                    by_cases h : j < k
                    · exact HE.out j h
                    · rw [List.getElem?_eq_none (by rw [List.length_map, HRX.out.l2]; omega), List.getElem?_eq_none (by rw [List.length_map, HRY.out.l2]; have := HN2.out; omega)]))
                  have HW3 := HW
                  clear HW HE
                  go_wp2_with (fail)
                  go_loopw [9] (fun i wr => ∃ k : Nat, k ≤ x.n3 ∧ i = .int .i64 k ∧ Hid (∀ j, j < k → x.sy[j]? = y.sy[j]?) ∧ Hid (Below w0.heap.size w0 wr)) (fun i _ => x.n3 - (intOf i).toNat)
                  case atStart => exact ⟨0, Nat.zero_le _, rfl, Lib.hid (fun j h => by omega), HW3⟩
                  case round =>
                    clear HW3
                    rename World => wr
                    obtain ⟨k, hk, rfl, HE, HW⟩ := hrel
                    have hnb : x.n3 ≤ 140737488351232 := by have := HRX.out.s3; omega
                    have d3 := (HW.out.cell (p := ⟨N, 3, none⟩) HNZ.out.1).trans D3.out
                    have e3 := (HW.out.cell (p := ⟨N + 1, 3, none⟩) HNZ.out.2).trans E3.out
                    by_cases hlt : k < x.n3
                    · have k0 : (0 : Int) ≤ k := by omega
                      have k1 : (k : Int) < x.n3 := by omega
                      have k2 : (k : Int) < y.n3 := by have := HN3.out; omega
                      obtain ⟨u, hu⟩ : ∃ u, x.sy[k]? = some u := ⟨_, List.getElem?_eq_getElem (by rw [HRX.out.l3]; exact hlt)⟩
                      obtain ⟨v, hv⟩ : ∃ v, y.sy[k]? = some v := ⟨_, List.getElem?_eq_getElem (by rw [HRY.out.l3]; have := HN3.out; omega)⟩
                      have HXX := Lib.hid hu
                      have HYY := Lib.hid hv
                      have HW9 := Lib.hid (HB.out.trans (HW.out.mono HB.out.size))
                      obtain ⟨g, off, hga, hg, hc⟩ := RowsAt.get (HRX.out.sy) hu
                      obtain ⟨g', off', hga', hg', hc'⟩ := RowsAt.get (HRY.out.sy) hv
                      rw [hga] at d3
                      rw [hga'] at e3
                      have a0 := (HW9.out.cell (p := ⟨g, off + k * 5 + 0, none⟩) hg).trans (hc 0 (.int .i64 u.q) (by decide) rfl)
                      have b0 := (HW9.out.cell (p := ⟨g', off' + k * 5 + 0, none⟩) hg').trans (hc' 0 (.int .i64 v.q) (by decide) rfl)
                      have a1 := (HW9.out.cell (p := ⟨g, off + k * 5 + 1, none⟩) hg).trans (hc 1 (.int .i64 u.t) (by decide) rfl)
                      have b1 := (HW9.out.cell (p := ⟨g', off' + k * 5 + 1, none⟩) hg').trans (hc' 1 (.int .i64 v.t) (by decide) rfl)
                      have a2 := (HW9.out.cell (p := ⟨g, off + k * 5 + 2, none⟩) hg).trans (hc 2 (.int .i64 u.r) (by decide) rfl)
                      have b2 := (HW9.out.cell (p := ⟨g', off' + k * 5 + 2, none⟩) hg').trans (hc' 2 (.int .i64 v.r) (by decide) rfl)
                      have a3 := (HW9.out.cell (p := ⟨g, off + k * 5 + 3, none⟩) hg).trans (hc 3 (.int .i64 u.l) (by decide) rfl)
                      have b3 := (HW9.out.cell (p := ⟨g', off' + k * 5 + 3, none⟩) hg').trans (hc' 3 (.int .i64 v.l) (by decide) rfl)
                      have a4 := (HW9.out.cell (p := ⟨g, off + k * 5 + 4, none⟩) hg).trans (hc 4 (.int .i64 u.c) (by decide) rfl)
                      have b4 := (HW9.out.cell (p := ⟨g', off' + k * 5 + 4, none⟩) hg').trans (hc' 4 (.int .i64 v.c) (by decide) rfl)
                      rw [Nat.add_zero] at a0 b0
                      have hN := fun w => neqSy_run u v w
                      generalize hBq : eqSyB u v = B at hN
                      have HBB := Lib.hid (show B = true ↔ u = v by rw [← hBq]; exact eqSyB_iff u v)
                      clear hBq hc hc' hg hg' hu hv hga hga'
                      cases B with
                      | true =>
                        go_wp2_with (fail)
                        go_quiet (fail)
                        have HBN := Lib.hid (show Below w0.heap.size w0 (wr.drewN nq) from below_drewF HW.out nq)
                        generalize wr.drewN nq = wz at HBN ⊢
                        clear a0 b0 a1 b1 a2 b2 a3 b3 a4 b4 hN d3 e3
                        go_wp2_with (fail)
                        exact ⟨⟨k + 1, by omega, by go_num, Lib.hid (fun j hj => by
                          by_cases h : j = k
                          · subst h; rw [HXX.out, HYY.out, HBB.out.1 (by trivial)]
                          · exact HE.out j (by omega)), HBN⟩, by first | (simp [intOf]; done) | (simp [intOf]; omega)⟩
                      | false =>
                        go_wp2_with (fail)
                        go_quiet (fail)
                        have HBN := Lib.hid (show Below w0.heap.size w0 (wr.drewN nq) from below_drewF HW.out nq)
                        generalize wr.drewN nq = wz at HBN ⊢
                        clear a0 b0 a1 b1 a2 b2 a3 b3 a4 b4 hN d3 e3
                        go_wp2_with (fail)
                        go_ret
                        refine ⟨⟨false, rfl, fun h => absurd h (by decide), fun h => ?_⟩, HB.out.trans (HBN.out.mono HB.out.size)⟩
                        have h1 := HXX.out
                        rw [h.sy, HYY.out] at h1
                        exact absurd (HBB.out.2 (Option.some.inj h1).symm) (by decide)
                    · have k1 : ¬ (k : Int) < x.n3 := by omega
                      have HF3 := Lib.hid (show x.sy = y.sy from List.ext_getElem? (fun j => by
                        by_cases h : j < k
                        · exact HE.out j h
                        · rw [List.getElem?_eq_none (by rw [HRX.out.l3]; omega), List.getElem?_eq_none (by rw [HRY.out.l3]; have := HN3.out; omega)]))
                      have HW4 := HW
                      clear HW HE
                      go_wp2_with (fail)
                      go_loopw [10] (fun i wr => ∃ k : Nat, k ≤ x.n4 ∧ i = .int .i64 k ∧ Hid (∀ j, j < k → (x.au.map aK)[j]? = (y.au.map aK)[j]?) ∧ Hid (Below w0.heap.size w0 wr)) (fun i _ => x.n4 - (intOf i).toNat)
                      case atStart => exact ⟨0, Nat.zero_le _, rfl, Lib.hid (fun j h => by omega), HW4⟩
                      case round =>
                        clear HW4
                        rename World => wr
                        obtain ⟨k, hk, rfl, HE, HW⟩ := hrel
                        have hnb : x.n4 ≤ 140737488351232 := by have := HRX.out.s4; omega
                        have d4 := (HW.out.cell (p := ⟨N, 4, none⟩) HNZ.out.1).trans D4.out
                        have e4 := (HW.out.cell (p := ⟨N + 1, 4, none⟩) HNZ.out.2).trans E4.out
                        by_cases hlt : k < x.n4
                        · have k0 : (0 : Int) ≤ k := by omega
                          have k1 : (k : Int) < x.n4 := by omega
                          have k2 : (k : Int) < y.n4 := by have := HN4.out; omega
                          obtain ⟨u, hu⟩ : ∃ u, x.au[k]? = some u := ⟨_, List.getElem?_eq_getElem (by rw [HRX.out.l4]; exact hlt)⟩
                          obtain ⟨v, hv⟩ : ∃ v, y.au[k]? = some v := ⟨_, List.getElem?_eq_getElem (by rw [HRY.out.l4]; have := HN4.out; omega)⟩
                          have HXX := Lib.hid (show (x.au.map aK)[k]? = some (aK u) by rw [List.getElem?_map, hu]; rfl)
                          have HYY := Lib.hid (show (y.au.map aK)[k]? = some (aK v) by rw [List.getElem?_map, hv]; rfl)
                          have HW9 := Lib.hid (HB.out.trans (HW.out.mono HB.out.size))
                          obtain ⟨g, off, hga, hg, hc⟩ := RowsAt.get (HRX.out.au) hu
                          obtain ⟨g', off', hga', hg', hc'⟩ := RowsAt.get (HRY.out.au) hv
                          rw [hga] at d4
                          rw [hga'] at e4
                          have a0 := (HW9.out.cell (p := ⟨g, off + k * 3 + 0, none⟩) hg).trans (hc 0 (.string u.res) (by decide) rfl)
                          have b0 := (HW9.out.cell (p := ⟨g', off' + k * 3 + 0, none⟩) hg').trans (hc' 0 (.string v.res) (by decide) rfl)
                          have a1 := (HW9.out.cell (p := ⟨g, off + k * 3 + 1, none⟩) hg).trans (hc 1 (.bool u.white) (by decide) rfl)
                          have b1 := (HW9.out.cell (p := ⟨g', off' + k * 3 + 1, none⟩) hg').trans (hc' 1 (.bool v.white) (by decide) rfl)
                          have a2 := (HW9.out.cell (p := ⟨g, off + k * 3 + 2, none⟩) hg).trans (hc 2 (.slice u.oa u.ol u.oc) (by decide) rfl)
                          have b2 := (HW9.out.cell (p := ⟨g', off' + k * 3 + 2, none⟩) hg').trans (hc' 2 (.slice v.oa v.ol v.oc) (by decide) rfl)
                          rw [Nat.add_zero] at a0 b0
                          have HS7 := Lib.hid (show ∀ wx, Below wr.heap.size wr wx → (fun wx => wx.cell? ⟨N, 4, none⟩ = some (.slice (some ⟨g, off, none⟩) x.n4 x.c4) ∧ wx.cell? ⟨N + 1, 4, none⟩ = some (.slice (some ⟨g', off', none⟩) y.n4 y.c4) ∧ wx.cell? ⟨g, off + k * 3, none⟩ = some (.string u.res) ∧ wx.cell? ⟨g, off + k * 3 + 1, none⟩ = some (.bool u.white) ∧ wx.cell? ⟨g, off + k * 3 + 2, none⟩ = some (.slice u.oa u.ol u.oc) ∧ wx.cell? ⟨g', off' + k * 3, none⟩ = some (.string v.res) ∧ wx.cell? ⟨g', off' + k * 3 + 1, none⟩ = some (.bool v.white) ∧ wx.cell? ⟨g', off' + k * 3 + 2, none⟩ = some (.slice v.oa v.ol v.oc)) wx from fun wx hb => ⟨(hb.cell (p := ⟨N, 4, none⟩) (Nat.lt_of_lt_of_le HNZ.out.1 HW.out.size)).trans d4, (hb.cell (p := ⟨N + 1, 4, none⟩) (Nat.lt_of_lt_of_le HNZ.out.2 HW.out.size)).trans e4, (hb.cell (p := ⟨g, off + k * 3, none⟩) (Nat.lt_of_lt_of_le hg HW9.out.size)).trans a0, (hb.cell (p := ⟨g, off + k * 3 + 1, none⟩) (Nat.lt_of_lt_of_le hg HW9.out.size)).trans a1, (hb.cell (p := ⟨g, off + k * 3 + 2, none⟩) (Nat.lt_of_lt_of_le hg HW9.out.size)).trans a2, (hb.cell (p := ⟨g', off' + k * 3, none⟩) (Nat.lt_of_lt_of_le hg' HW9.out.size)).trans b0, (hb.cell (p := ⟨g', off' + k * 3 + 1, none⟩) (Nat.lt_of_lt_of_le hg' HW9.out.size)).trans b1, (hb.cell (p := ⟨g', off' + k * 3 + 2, none⟩) (Nat.lt_of_lt_of_le hg' HW9.out.size)).trans b2⟩)
                          have HSM := Lib.hid (fun (wx : World) (hb : Below w.heap.size w wx) => r7sameAuth_any (w := wx) u v ((HRX.out.za u (List.mem_of_getElem? hu)).below (Nat.le_refl _) hb) ((HRY.out.za v (List.mem_of_getElem? hv)).below (Nat.le_refl _) hb))
                          clear hc hc' hg hg' hu hv hga hga'
                          go_wp2_with (fail)
                          refine wp_region_noPanic ?_
                          refine wp_region_held_drew (S := (fun wx => wx.cell? ⟨N, 4, none⟩ = some (.slice (some ⟨g, off, none⟩) x.n4 x.c4) ∧ wx.cell? ⟨N + 1, 4, none⟩ = some (.slice (some ⟨g', off', none⟩) y.n4 y.c4) ∧ wx.cell? ⟨g, off + k * 3, none⟩ = some (.string u.res) ∧ wx.cell? ⟨g, off + k * 3 + 1, none⟩ = some (.bool u.white) ∧ wx.cell? ⟨g, off + k * 3 + 2, none⟩ = some (.slice u.oa u.ol u.oc) ∧ wx.cell? ⟨g', off' + k * 3, none⟩ = some (.string v.res) ∧ wx.cell? ⟨g', off' + k * 3 + 1, none⟩ = some (.bool v.white) ∧ wx.cell? ⟨g', off' + k * 3 + 2, none⟩ = some (.slice v.oa v.ol v.oc))) (by kernel_rfl) ?_ (fun hHeld => ?_)
                          · exact HS7.out _ (Below.refl _ _).drew
                          refine wpAnyH_take (i := 0) (v := ?_) rfl (by kernel_rfl) (by kernel_rfl) (by kernel_rfl) (fun _ _ _ h => h) (Or.inl ⟨by rfl, ?hy⟩) (by assumption) ?_
                          case hy => intro w hSw; (try dsimp only at hSw); go_simp; try with_reducible rfl
                          try simp only [Act.put, List.getElem_toArray, List.getElem_cons_succ, List.getElem_cons_zero, List.setIfInBounds_toArray, List.set_cons_zero, List.set_cons_succ]
                          refine wpAnyH_take (i := 1) (v := ?_) rfl (by kernel_rfl) (by kernel_rfl) (by kernel_rfl) (fun _ _ _ h => h) (Or.inl ⟨by rfl, ?hy⟩) (by assumption) ?_
                          case hy => intro w hSw; (try dsimp only at hSw); go_simp; try with_reducible rfl
                          try simp only [Act.put, List.getElem_toArray, List.getElem_cons_succ, List.getElem_cons_zero, List.setIfInBounds_toArray, List.set_cons_zero, List.set_cons_succ]
                          refine wpAnyH_take (i := 2) (v := ?_) rfl (by kernel_rfl) (by kernel_rfl) (by kernel_rfl) (fun _ _ _ h => h) (Or.inl ⟨by rfl, ?hy⟩) (by assumption) ?_
                          case hy => intro w hSw; (try dsimp only at hSw); go_simp; try with_reducible rfl
                          try simp only [Act.put, List.getElem_toArray, List.getElem_cons_succ, List.getElem_cons_zero, List.setIfInBounds_toArray, List.set_cons_zero, List.set_cons_succ]
                          refine wpAnyH_take (i := 3) (v := ?_) rfl (by kernel_rfl) (by kernel_rfl) (by kernel_rfl) (fun _ _ _ h => h) (Or.inl ⟨by rfl, ?hy⟩) (by assumption) ?_
                          case hy => intro w hSw; (try dsimp only at hSw); go_simp; try with_reducible rfl
                          try simp only [Act.put, List.getElem_toArray, List.getElem_cons_succ, List.getElem_cons_zero, List.setIfInBounds_toArray, List.set_cons_zero, List.set_cons_succ]
                          refine wpAnyH_take (i := 4) (v := ?_) rfl (by kernel_rfl) (by kernel_rfl) (by kernel_rfl) (fun _ _ _ h => h) (Or.inl ⟨by rfl, ?hy⟩) (by assumption) ?_
                          case hy => intro w hSw; (try dsimp only at hSw); go_simp; try with_reducible rfl
                          try simp only [Act.put, List.getElem_toArray, List.getElem_cons_succ, List.getElem_cons_zero, List.setIfInBounds_toArray, List.set_cons_zero, List.set_cons_succ]
                          refine wpAnyH_take (i := 5) (v := ?_) rfl (by kernel_rfl) (by kernel_rfl) (by kernel_rfl) (fun _ _ _ h => h) (Or.inl ⟨by rfl, ?hy⟩) (by assumption) ?_
                          case hy => intro w hSw; (try dsimp only at hSw); go_simp; try with_reducible rfl
                          try simp only [Act.put, List.getElem_toArray, List.getElem_cons_succ, List.getElem_cons_zero, List.setIfInBounds_toArray, List.set_cons_zero, List.set_cons_succ]
                          refine wpAnyH_take (i := 6) (v := ?_) rfl (by kernel_rfl) (by kernel_rfl) (by kernel_rfl) (fun _ _ _ h => h) (Or.inl ⟨by rfl, ?hy⟩) (by assumption) ?_
                          case hy => intro w hSw; (try dsimp only at hSw); go_simp; try with_reducible rfl
                          try simp only [Act.put, List.getElem_toArray, List.getElem_cons_succ, List.getElem_cons_zero, List.setIfInBounds_toArray, List.set_cons_zero, List.set_cons_succ]
                          refine wpAnyH_take (i := 7) (v := ?_) rfl (by kernel_rfl) (by kernel_rfl) (by kernel_rfl) (fun _ _ _ h => h) (Or.inl ⟨by rfl, ?hy⟩) (by assumption) ?_
                          case hy => intro w hSw; (try dsimp only at hSw); go_simp; try with_reducible rfl
                          try simp only [Act.put, List.getElem_toArray, List.getElem_cons_succ, List.getElem_cons_zero, List.setIfInBounds_toArray, List.set_cons_zero, List.set_cons_succ]
                          refine wpAnyH_take (i := 8) (v := ?_) rfl (by kernel_rfl) (by kernel_rfl) (by kernel_rfl) (fun _ _ _ h => h) (Or.inl ⟨by rfl, ?hy⟩) (by assumption) ?_
                          case hy => intro w hSw; (try dsimp only at hSw); go_simp; try with_reducible rfl
                          try simp only [Act.put, List.getElem_toArray, List.getElem_cons_succ, List.getElem_cons_zero, List.setIfInBounds_toArray, List.set_cons_zero, List.set_cons_succ]
                          refine wpAnyH_take (i := 9) (v := ?_) rfl (by kernel_rfl) (by kernel_rfl) (by kernel_rfl) (fun _ _ _ h => h) (Or.inl ⟨by rfl, ?hy⟩) (by assumption) ?_
                          case hy => intro w hSw; (try dsimp only at hSw); go_simp; try with_reducible rfl
                          try simp only [Act.put, List.getElem_toArray, List.getElem_cons_succ, List.getElem_cons_zero, List.setIfInBounds_toArray, List.set_cons_zero, List.set_cons_succ]
                          refine wpAnyH_ready (rs := [10]) (by kernel_rfl) (by simp) (AllReadyH.cons rfl (fun K hK => ?_) AllReadyH.nil)
                          go_simp
                          go_at_call 21; refine (HSM.out _ (below_drewF HW9.out 1)).mono ?_; rintro e w3 ⟨⟨t, rfl, ht⟩, hb3⟩
                          have HT := Lib.hid ht
                          have HB3 := Lib.hid (show Below wr.heap.size wr w3 from (Below.refl _ _).drew.trans hb3)
                          clear ht hb3
                          try (go_wp2_with fail)
                          refine hK.out _ _ ?_ (fun hHeld => ?_)
                          · exact HS7.out _ HB3.out
                          clear hK K
                          try simp only [Act.put, List.getElem_toArray, List.getElem_cons_succ, List.getElem_cons_zero, List.setIfInBounds_toArray, List.set_cons_zero, List.set_cons_succ]
                          refine wpAnyH_take (i := 11) (v := ?_) rfl (by kernel_rfl) (by kernel_rfl) (by kernel_rfl) (fun _ _ _ h => h) (Or.inl ⟨by rfl, ?hy⟩) (by assumption) ?_
                          case hy => intro w hSw; (try dsimp only at hSw); go_simp; try with_reducible rfl
                          try simp only [Act.put, List.getElem_toArray, List.getElem_cons_succ, List.getElem_cons_zero, List.setIfInBounds_toArray, List.set_cons_zero, List.set_cons_succ]
                          refine wpAnyH_done (by kernel_rfl) ?_ _
                          refine NoPanic.normal ?_
                          have HBN := Lib.hid (show Below w0.heap.size w0 w3 from HW.out.trans (HB3.out.mono HW.out.size))
                          clear a0 b0 a1 b1 a2 b2 d4 e4 hHeld
                          cases t with
                          | true =>
                            go_wp2_with (fail)
                            exact ⟨⟨k + 1, by omega, by go_num, Lib.hid (fun j hj => by
                              by_cases h : j = k
                              · subst h; rw [HXX.out, HYY.out, HT.out.1 (by trivial)]
                              · exact HE.out j (by omega)), HBN⟩, by first | (simp [intOf]; done) | (simp [intOf]; omega)⟩
                          | false =>
                            go_wp2_with (fail)
                            go_ret
                            refine ⟨⟨false, rfl, fun h => absurd h (by decide), fun h => ?_⟩, HB.out.trans (HBN.out.mono HB.out.size)⟩
                            have h1 := HXX.out
                            rw [h.au, HYY.out] at h1
                            exact absurd (HT.out.2 (Option.some.inj h1).symm) (by decide)
                        · have k1 : ¬ (k : Int) < x.n4 := by omega
                          have HF4 := Lib.hid (show (x.au.map aK) = (y.au.map aK) from List.ext_getElem? (fun j => by
                            by_cases h : j < k
                            · exact HE.out j h
                            · rw [List.getElem?_eq_none (by rw [List.length_map, HRX.out.l4]; omega), List.getElem?_eq_none (by rw [List.length_map, HRY.out.l4]; have := HN4.out; omega)]))
                          have HW5 := HW
                          clear HW HE
                          go_wp2_with (fail)
                          go_ret
                          exact ⟨⟨true, rfl, fun _ => ⟨HF0.out, HF1.out, HF2.out, HF3.out, HF4.out⟩, fun _ => rfl⟩, HB.out.trans (HW5.out.mono HB.out.size)⟩
end Go.Proofs.Ytgkdpkpiejjfmaa
