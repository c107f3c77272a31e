/- The reference's SameHot, SameList: decided. -/
import Derived.Test.YtgkdpkpiejjfmaaRCpB
namespace Go.Proofs.Ytgkdpkpiejjfmaa
open Go.RowKit
set_option linter.unusedVariables false
set_option linter.unusedSimpArgs false

set_option maxHeartbeats 6400000 in
set_option maxRecDepth 20000 in
theorem r7sameHot_any {w : World} (x y : HotS) (hx : HotOk w x) (hy : HotOk w y) :
    Calls Try.prog 20 #[.agg x.cs.toArray, .agg y.cs.toArray] w (Tells (hK x = hK y) w) := by
  have HXO := Lib.hid hx
  have HYO := Lib.hid hy
  clear hx hy
  obtain ⟨xr, xi, xc, xs, xa, xl, xk, xt⟩ := x
  obtain ⟨yr, yi, yc, ys, ya, yl, yk, yt⟩ := y
  show Calls _ _ #[.agg #[.string xr, .int .i64 xi, .int .i64 xc, .int .i64 xs, .slice xa xl xk], .agg #[.string yr, .int .i64 yi, .int .i64 yc, .int .i64 ys, .slice ya yl yk]] _ _
  obtain ⟨N, hN⟩ : ∃ N, w.heap.size = N := ⟨_, rfl⟩
  have h0 : ((w.alloc (.cells #[.string xr, .int .i64 xi, .int .i64 xc, .int .i64 xs, .slice xa xl xk] 44)).alloc (.cells #[.string yr, .int .i64 yi, .int .i64 yc, .int .i64 ys, .slice ya yl yk] 44)).heap[N]? = some (.cells #[.string xr, .int .i64 xi, .int .i64 xc, .int .i64 xs, .slice xa xl xk] 44) := by rw [get_allocC, if_neg (by rw [World.size_alloc]; omega), get_allocC, if_pos hN.symm]
  have h1 : ((w.alloc (.cells #[.string xr, .int .i64 xi, .int .i64 xc, .int .i64 xs, .slice xa xl xk] 44)).alloc (.cells #[.string yr, .int .i64 yi, .int .i64 yc, .int .i64 ys, .slice ya yl yk] 44)).heap[N + 1]? = some (.cells #[.string yr, .int .i64 yi, .int .i64 yc, .int .i64 ys, .slice ya yl yk] 44) := by rw [get_allocC, if_pos (by rw [World.size_alloc]; omega)]
  have HB := Lib.hid (show Below w.heap.size w ((w.alloc (.cells #[.string xr, .int .i64 xi, .int .i64 xc, .int .i64 xs, .slice xa xl xk] 44)).alloc (.cells #[.string yr, .int .i64 yi, .int .i64 yc, .int .i64 ys, .slice ya yl yk] 44)) from ((Below.refl _ _).alloc (Nat.le_refl _) _).alloc (by simp) _)
  obtain ⟨w0, hw0⟩ : ∃ w0, (w.alloc (.cells #[.string xr, .int .i64 xi, .int .i64 xc, .int .i64 xs, .slice xa xl xk] 44)).alloc (.cells #[.string yr, .int .i64 yi, .int .i64 yc, .int .i64 ys, .slice ya yl yk] 44) = w0 := ⟨_, rfl⟩
  rw [hw0] at HB h0 h1
  have d0 : w0.cell? ⟨N, 0, none⟩ = some (.string xr) := by simp only [World.cell?, h0]; rfl
  have d1 : w0.cell? ⟨N, 1, none⟩ = some (.int .i64 xi) := by simp only [World.cell?, h0]; rfl
  have d2 : w0.cell? ⟨N, 2, none⟩ = some (.int .i64 xc) := by simp only [World.cell?, h0]; rfl
  have d3 : w0.cell? ⟨N, 3, none⟩ = some (.int .i64 xs) := by simp only [World.cell?, h0]; rfl
  have d4 : w0.cell? ⟨N, 4, none⟩ = some (.slice xa xl xk) := by simp only [World.cell?, h0]; rfl
  have e0 : w0.cell? ⟨N + 1, 0, none⟩ = some (.string yr) := by simp only [World.cell?, h1]; rfl
  have e1 : w0.cell? ⟨N + 1, 1, none⟩ = some (.int .i64 yi) := by simp only [World.cell?, h1]; rfl
  have e2 : w0.cell? ⟨N + 1, 2, none⟩ = some (.int .i64 yc) := by simp only [World.cell?, h1]; rfl
  have e3 : w0.cell? ⟨N + 1, 3, none⟩ = some (.int .i64 ys) := by simp only [World.cell?, h1]; rfl
  have e4 : w0.cell? ⟨N + 1, 4, none⟩ = some (.slice ya yl yk) := by simp only [World.cell?, h1]; rfl
  have HNZ := Lib.hid (show N < w0.heap.size ∧ N + 1 < w0.heap.size from ⟨(Array.getElem?_eq_some_iff.1 h0).1, (Array.getElem?_eq_some_iff.1 h1).1⟩)
  clear h0 h1
  by_cases q0 : xr = yr
  · subst q0
    by_cases q1 : xi = yi
    · subst q1
      by_cases q2 : xc = yc
      · subst q2
        by_cases q3 : xs = ys
        · subst q3
          by_cases ql : xl = yl
          · subst ql
            have HE0 := Lib.hid (show xt.length = xl ∧ yt.length = xl ∧ xl ≤ 140737488355328 from ⟨HXO.out.l, HYO.out.l, by have := HXO.out.b; dsimp only at this; omega⟩)
            have hxl : xl ≤ 140737488355328 := HE0.out.2.2
            go_enter Try.func20, Try.ntmps20
            go_wp2_with (fail)
            clear hw0 hN
            go_loopw [5] (fun i wr => ∃ k : Nat, k ≤ xl ∧ i = .int .i64 k ∧ Hid (∀ j, j < k → xt[j]? = yt[j]?) ∧ Hid (Below w0.heap.size w0 wr)) (fun i _ => xl - (intOf i).toNat)
            case atStart => exact ⟨0, Nat.zero_le _, rfl, Lib.hid (fun j h => by omega), Lib.hid (Below.refl _ _)⟩
            case round =>
              rename World => wr
              obtain ⟨k, hk, rfl, HE, HW⟩ := hrel
              have d4 := (HW.out.cell (p := ⟨N, 4, none⟩) HNZ.out.1).trans d4
              have e4 := (HW.out.cell (p := ⟨N + 1, 4, none⟩) HNZ.out.2).trans e4
              have HW9 := Lib.hid (HB.out.trans (HW.out.mono HB.out.size))
              by_cases hlt : k < xl
              · have k0 : (0 : Int) ≤ k := by omega
                have k1 : (k : Int) < xl := by omega
                obtain ⟨u, hu⟩ : ∃ u, xt[k]? = some u := ⟨_, List.getElem?_eq_getElem (by rw [HE0.out.1]; exact hlt)⟩
                obtain ⟨v, hv⟩ : ∃ v, yt[k]? = some v := ⟨_, List.getElem?_eq_getElem (by rw [HE0.out.2.1]; exact hlt)⟩
                have HXX := Lib.hid hu
                have HYY := Lib.hid hv
                rcases HXO.out.at_ with h | ⟨g, off, hga, hg, hc⟩
                · have h3 : xt = [] := List.map_eq_nil_iff.1 h
                  have h4 := HE0.out.1
                  rw [h3] at h4
                  exact absurd h4 (by show ¬ (0 = xl); omega)
                · rcases HYO.out.at_ with h | ⟨g', off', hga', hg', hc'⟩
                  · have h3 : yt = [] := List.map_eq_nil_iff.1 h
                    have h4 := HE0.out.2.1
                    rw [h3] at h4
                    exact absurd h4 (by show ¬ (0 = xl); omega)
                  · dsimp only at hga hga'
                    subst hga hga'
                    have hxc := hc k u.cs (by dsimp only; rw [List.getElem?_map, hu]; rfl)
                    have hyc := hc' k v.cs (by dsimp only; rw [List.getElem?_map, hv]; rfl)
                    have a0 := (HW9.out.cell (p := ⟨g, off + k * 2 + 0, none⟩) hg).trans (hxc 0 (.string u.val) (by decide) rfl)
                    have a1 := (HW9.out.cell (p := ⟨g, off + k * 2 + 1, none⟩) hg).trans (hxc 1 (.int .i64 u.cnt) (by decide) rfl)
                    have b0 := (HW9.out.cell (p := ⟨g', off' + k * 2 + 0, none⟩) hg').trans (hyc 0 (.string v.val) (by decide) rfl)
                    have b1 := (HW9.out.cell (p := ⟨g', off' + k * 2 + 1, none⟩) hg').trans (hyc 1 (.int .i64 v.cnt) (by decide) rfl)
                    rw [Nat.add_zero] at a0 b0
                    clear hc hc' hxc hyc hg hg' hu hv
                    have hN := fun w => neqIt_run u v w
                    generalize hBq : eqItB u v = B at hN
                    have HBB := Lib.hid (show B = true ↔ u = v by rw [← hBq]; exact eqItB_iff u v)
                    clear hBq
                    cases B with
                    | true =>
                      go_wp2_with (fail)
                      go_quiet (fail)
                      have HBN := Lib.hid (below_drewC HW.out nq)
                      generalize wr.drewN nq = wz at HBN ⊢
                      clear a0 a1 b0 b1 hN
                      go_wp2_with (fail)
                      exact ⟨⟨k + 1, by omega, by go_num, Lib.hid (fun j hj => by
                        by_cases h : j = k
                        · subst h; rw [HXX.out, HYY.out, HBB.out.1 (by trivial)]
                        · exact HE.out j (by omega)), HBN⟩, by first | (simp [intOf]; done) | (simp [intOf]; omega)⟩
                    | false =>
                      go_wp2_with (fail)
                      go_quiet (fail)
                      have HBN := Lib.hid (below_drewC HW.out nq)
                      generalize wr.drewN nq = wz at HBN ⊢
                      clear a0 a1 b0 b1 hN
                      go_wp2_with (fail)
                      go_ret
                      refine ⟨⟨false, rfl, fun h => absurd h (by decide), fun h => ?_⟩, HB.out.trans (HBN.out.mono HB.out.size)⟩
                      exfalso
                      have ht : xt = yt := by unfold hK at h; injections
                      have h1 := HXX.out
                      rw [ht, HYY.out] at h1
                      exact absurd (HBB.out.2 (Option.some.inj h1).symm) (by decide)
              · have k1 : ¬ (k : Int) < xl := by omega
                go_wp2_with (fail)
                go_ret
                refine ⟨⟨true, rfl, fun _ => ?_, fun _ => rfl⟩, HW9.out⟩
                have ht : xt = yt := List.ext_getElem? (fun j => by
                  by_cases h : j < k
                  · exact HE.out j h
                  · rw [List.getElem?_eq_none (by rw [HE0.out.1]; omega), List.getElem?_eq_none (by rw [HE0.out.2.1]; omega)])
                subst ht
                rfl
          · have Q := Lib.hid ql
            have ql' : ¬ (xl : Int) = yl := by omega
            have HLL := Lib.hid (show xt.length = xl ∧ yt.length = yl from ⟨HXO.out.l, HYO.out.l⟩)
            go_enter Try.func20, Try.ntmps20
            go_wp2_with (fail)
            go_ret
            exact ⟨⟨false, rfl, fun h => absurd h (by decide), fun h => absurd (by have ht : xt = yt := (by unfold hK at h; injections); rw [← HLL.out.1, ← HLL.out.2, ht]) Q.out⟩, HB.out⟩
        · have Q := Lib.hid q3
          go_enter Try.func20, Try.ntmps20
          go_wp2_with (fail)
          go_ret
          exact ⟨⟨false, rfl, fun h => absurd h (by decide), fun h => absurd (by unfold hK at h; injections) Q.out⟩, HB.out⟩
      · have Q := Lib.hid q2
        go_enter Try.func20, Try.ntmps20
        go_wp2_with (fail)
        go_ret
        exact ⟨⟨false, rfl, fun h => absurd h (by decide), fun h => absurd (by unfold hK at h; injections) Q.out⟩, HB.out⟩
    · have Q := Lib.hid q1
      go_enter Try.func20, Try.ntmps20
      go_wp2_with (fail)
      go_ret
      exact ⟨⟨false, rfl, fun h => absurd h (by decide), fun h => absurd (by unfold hK at h; injections) Q.out⟩, HB.out⟩
  · have q0' : (xr.toList == yr.toList) = false := by rw [toList_decR]; exact decide_eq_false q0
    have Q := Lib.hid q0
    clear q0
    go_enter Try.func20, Try.ntmps20
    go_wp2_with (fail)
    go_ret
    exact ⟨⟨false, rfl, fun h => absurd h (by decide), fun h => absurd (by unfold hK at h; injections) Q.out⟩, HB.out⟩
set_option maxHeartbeats 6400000 in
set_option maxRecDepth 20000 in
theorem r7sameAuth_any {w : World} (x y : AuthS) (hx : AuthOk w x) (hy : AuthOk w y) :
    Calls Try.prog 21 #[.agg x.cs.toArray, .agg y.cs.toArray] w (Tells (aK x = aK y) w) := by
  have HXO := Lib.hid hx
  have HYO := Lib.hid hy
  clear hx hy
  obtain ⟨xr, xh, xa, xl, xk, xt⟩ := x
  obtain ⟨yr, yh, ya, yl, yk, yt⟩ := y
  show Calls _ _ #[.agg #[.string xr, .bool xh, .slice xa xl xk], .agg #[.string yr, .bool yh, .slice ya yl yk]] _ _
  obtain ⟨N, hN⟩ : ∃ N, w.heap.size = N := ⟨_, rfl⟩
  have h0 : ((w.alloc (.cells #[.string xr, .bool xh, .slice xa xl xk] 48)).alloc (.cells #[.string yr, .bool yh, .slice ya yl yk] 48)).heap[N]? = some (.cells #[.string xr, .bool xh, .slice xa xl xk] 48) := by rw [get_allocC, if_neg (by rw [World.size_alloc]; omega), get_allocC, if_pos hN.symm]
  have h1 : ((w.alloc (.cells #[.string xr, .bool xh, .slice xa xl xk] 48)).alloc (.cells #[.string yr, .bool yh, .slice ya yl yk] 48)).heap[N + 1]? = some (.cells #[.string yr, .bool yh, .slice ya yl yk] 48) := by rw [get_allocC, if_pos (by rw [World.size_alloc]; omega)]
  have HB := Lib.hid (show Below w.heap.size w ((w.alloc (.cells #[.string xr, .bool xh, .slice xa xl xk] 48)).alloc (.cells #[.string yr, .bool yh, .slice ya yl yk] 48)) from ((Below.refl _ _).alloc (Nat.le_refl _) _).alloc (by simp) _)
  obtain ⟨w0, hw0⟩ : ∃ w0, (w.alloc (.cells #[.string xr, .bool xh, .slice xa xl xk] 48)).alloc (.cells #[.string yr, .bool yh, .slice ya yl yk] 48) = w0 := ⟨_, rfl⟩
  rw [hw0] at HB h0 h1
  have d0 : w0.cell? ⟨N, 0, none⟩ = some (.string xr) := by simp only [World.cell?, h0]; rfl
  have d1 : w0.cell? ⟨N, 1, none⟩ = some (.bool xh) := by simp only [World.cell?, h0]; rfl
  have d2 : w0.cell? ⟨N, 2, none⟩ = some (.slice xa xl xk) := by simp only [World.cell?, h0]; rfl
  have e0 : w0.cell? ⟨N + 1, 0, none⟩ = some (.string yr) := by simp only [World.cell?, h1]; rfl
  have e1 : w0.cell? ⟨N + 1, 1, none⟩ = some (.bool yh) := by simp only [World.cell?, h1]; rfl
  have e2 : w0.cell? ⟨N + 1, 2, none⟩ = some (.slice ya yl yk) := by simp only [World.cell?, h1]; rfl
  have HNZ := Lib.hid (show N < w0.heap.size ∧ N + 1 < w0.heap.size from ⟨(Array.getElem?_eq_some_iff.1 h0).1, (Array.getElem?_eq_some_iff.1 h1).1⟩)
  clear h0 h1
  by_cases q0 : xr = yr
  · subst q0
    by_cases q1 : xh = yh
    · subst q1
      by_cases ql : xl = yl
      · subst ql
        have HE0 := Lib.hid (show xt.length = xl ∧ yt.length = xl ∧ xl ≤ 140737488355328 from ⟨HXO.out.l, HYO.out.l, by have := HXO.out.b; dsimp only at this; omega⟩)
        have hxl : xl ≤ 140737488355328 := HE0.out.2.2
        go_enter Try.func21, Try.ntmps21
        go_wp2_with (fail)
        clear hw0 hN
        go_loopw [5] (fun i wr => ∃ k : Nat, k ≤ xl ∧ i = .int .i64 k ∧ Hid (∀ j, j < k → xt[j]? = yt[j]?) ∧ Hid (Below w0.heap.size w0 wr)) (fun i _ => xl - (intOf i).toNat)
        case atStart => exact ⟨0, Nat.zero_le _, rfl, Lib.hid (fun j h => by omega), Lib.hid (Below.refl _ _)⟩
        case round =>
          rename World => wr
          obtain ⟨k, hk, rfl, HE, HW⟩ := hrel
          have d2 := (HW.out.cell (p := ⟨N, 2, none⟩) HNZ.out.1).trans d2
          have e2 := (HW.out.cell (p := ⟨N + 1, 2, none⟩) HNZ.out.2).trans e2
          have HW9 := Lib.hid (HB.out.trans (HW.out.mono HB.out.size))
          by_cases hlt : k < xl
          · have k0 : (0 : Int) ≤ k := by omega
            have k1 : (k : Int) < xl := by omega
            obtain ⟨u, hu⟩ : ∃ u, xt[k]? = some u := ⟨_, List.getElem?_eq_getElem (by rw [HE0.out.1]; exact hlt)⟩
            obtain ⟨v, hv⟩ : ∃ v, yt[k]? = some v := ⟨_, List.getElem?_eq_getElem (by rw [HE0.out.2.1]; exact hlt)⟩
            have HXX := Lib.hid hu
            have HYY := Lib.hid hv
            rcases HXO.out.at_ with h | ⟨g, off, hga, hg, hc⟩
            · have h3 : xt = [] := h
              have h4 := HE0.out.1
              rw [h3] at h4
              exact absurd h4 (by show ¬ (0 = xl); omega)
            · rcases HYO.out.at_ with h | ⟨g', off', hga', hg', hc'⟩
              · have h3 : yt = [] := h
                have h4 := HE0.out.2.1
                rw [h3] at h4
                exact absurd h4 (by show ¬ (0 = xl); omega)
              · dsimp only at hga hga'
                subst hga hga'
                have hxc := hc k (by dsimp only; have := (List.getElem?_eq_some_iff.1 hu).1; exact this)
                have hyc := hc' k (by dsimp only; have := (List.getElem?_eq_some_iff.1 hv).1; exact this)
                rw [show xt.getD k ⟨#[]⟩ = u by rw [List.getD_eq_getElem?_getD, hu]; rfl] at hxc
                rw [show yt.getD k ⟨#[]⟩ = v by rw [List.getD_eq_getElem?_getD, hv]; rfl] at hyc
                have a0 := (HW9.out.cell (p := ⟨g, off + k, none⟩) hg).trans hxc
                have b0 := (HW9.out.cell (p := ⟨g', off' + k, none⟩) hg').trans hyc
                clear hc hc' hxc hyc hg hg' hu hv
                obtain ⟨B, hBq⟩ : ∃ B, (u.toList == v.toList) = B := ⟨_, rfl⟩
                have HBB := Lib.hid (show B = true ↔ u = v by rw [← hBq, toList_decR, decide_eq_true_iff])
                cases B with
                | true =>
                  go_wp2_with (fail)
                  go_quiet (fail)
                  have HBN := Lib.hid (below_drewC HW.out nq)
                  generalize wr.drewN nq = wz at HBN ⊢
                  clear a0 b0 hBq
                  go_wp2_with (fail)
                  exact ⟨⟨k + 1, by omega, by go_num, Lib.hid (fun j hj => by
                    by_cases h : j = k
                    · subst h; rw [HXX.out, HYY.out, HBB.out.1 (by trivial)]
                    · exact HE.out j (by omega)), HBN⟩, by first | (simp [intOf]; done) | (simp [intOf]; omega)⟩
                | false =>
                  go_wp2_with (fail)
                  go_quiet (fail)
                  have HBN := Lib.hid (below_drewC HW.out nq)
                  generalize wr.drewN nq = wz at HBN ⊢
                  clear a0 b0 hBq
                  go_wp2_with (fail)
                  go_ret
                  refine ⟨⟨false, rfl, fun h => absurd h (by decide), fun h => ?_⟩, HB.out.trans (HBN.out.mono HB.out.size)⟩
                  exfalso
                  have ht : xt = yt := by unfold aK at h; injections
                  have h1 := HXX.out
                  rw [ht, HYY.out] at h1
                  exact absurd (HBB.out.2 (Option.some.inj h1).symm) (by decide)
          · have k1 : ¬ (k : Int) < xl := by omega
            go_wp2_with (fail)
            go_ret
            refine ⟨⟨true, rfl, fun _ => ?_, fun _ => rfl⟩, HW9.out⟩
            have ht : xt = yt := List.ext_getElem? (fun j => by
              by_cases h : j < k
              · exact HE.out j h
              · rw [List.getElem?_eq_none (by rw [HE0.out.1]; omega), List.getElem?_eq_none (by rw [HE0.out.2.1]; omega)])
            subst ht
            rfl
      · have Q := Lib.hid ql
        have ql' : ¬ (xl : Int) = yl := by omega
        have HLL := Lib.hid (show xt.length = xl ∧ yt.length = yl from ⟨HXO.out.l, HYO.out.l⟩)
        go_enter Try.func21, Try.ntmps21
        go_wp2_with (fail)
        go_ret
        exact ⟨⟨false, rfl, fun h => absurd h (by decide), fun h => absurd (by have ht : xt = yt := (by unfold aK at h; injections); rw [← HLL.out.1, ← HLL.out.2, ht]) Q.out⟩, HB.out⟩
    · have q1' : (xh == yh) = false := beq_eq_false_iff_ne.2 q1
      have Q := Lib.hid q1
      clear q1
      go_enter Try.func21, Try.ntmps21
      go_wp2_with (fail)
      go_ret
      exact ⟨⟨false, rfl, fun h => absurd h (by decide), fun h => absurd (by unfold aK at h; injections) Q.out⟩, HB.out⟩
  · have q0' : (xr.toList == yr.toList) = false := by rw [toList_decR]; exact decide_eq_false q0
    have Q := Lib.hid q0
    clear q0
    go_enter Try.func21, Try.ntmps21
    go_wp2_with (fail)
    go_ret
    exact ⟨⟨false, rfl, fun h => absurd h (by decide), fun h => absurd (by unfold aK at h; injections) Q.out⟩, HB.out⟩
end Go.Proofs.Ytgkdpkpiejjfmaa
