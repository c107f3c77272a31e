/- rules.sameHot, rules.sameList: decided. -/
import Derived.Test.YtgkdpkpiejjfmaaRCpA
import Derived.Test.YtgkdpkpiejjfmaaShelf
namespace Go.Proofs.Ytgkdpkpiejjfmaa
open Go.RowKit
set_option linter.unusedVariables false
set_option linter.unusedSimpArgs false

/-- What two hot rules, two lists are compared by. -/
def hK (h : HotS) : ByteArray × Int × Int × Int × List ItemS := (h.res, h.idx, h.cnt, h.secs, h.items)
def aK (a : AuthS) : ByteArray × Bool × List ByteArray := (a.res, a.white, a.orig)
theorem get_allocC (w : World) (o : Obj) (i : Nat) : (w.alloc o).heap[i]? = if i = w.heap.size then some o else w.heap[i]? := by
  show (Array.push w.heap _)[_]? = _
  rw [Array.getElem?_push]
theorem eqTx_any {w : World} (a b : Option Addr) (n m ca cb : Nat) (xs ys : List ByteArray) (hx : xs.length = n) (hy : ys.length = m) (hn : n ≤ 140737488355328) (hm : m ≤ 140737488355328) (ha : TextsAt w a xs) (hb : TextsAt w b ys) :
    Calls Try.prog 44 #[.slice a n ca, .slice b m cb] w (Tells (xs = ys) w) := by
  rcases ha with h | ⟨g, off, rfl, hg, hc⟩
  · subst h
    obtain rfl : n = 0 := by simpa using hx.symm
    refine (Try.slices_Equal_string_empty a b ca m cb w (by omega)).mono ?_
    rintro e w' ⟨rfl, rfl⟩
    refine ⟨⟨_, rfl, ?_⟩, Below.refl _ _⟩
    rw [decide_eq_true_iff, ← hy]
    exact ⟨fun h => (List.length_eq_zero_iff.1 h).symm, fun h => by rw [← h]; rfl⟩
  · rcases hb with h | ⟨g', off', rfl, hg', hc'⟩
    · subst h
      obtain rfl : m = 0 := by simpa using hy.symm
      by_cases hn0 : n = 0
      · subst hn0
        refine (Try.slices_Equal_string_empty _ b ca 0 cb w (by omega)).mono ?_
        rintro e w' ⟨rfl, rfl⟩
        exact ⟨⟨_, rfl, by simp [List.length_eq_zero_iff.1 hx]⟩, Below.refl _ _⟩
      · refine (Try.slices_Equal_string_lens _ b n ca 0 cb w hn0).mono ?_
        rintro e w' ⟨rfl, rfl⟩
        exact ⟨⟨_, rfl, fun h => absurd h (by decide), fun h => absurd (by rw [← hx, h]; rfl) hn0⟩, Below.refl _ _⟩
    · refine (Try.slices_Equal_string g off n ca g' off' m cb xs ys w (by omega) (by omega) (by omega) (by omega) hc hc').mono ?_
      rintro e w' ⟨rfl, q, rfl⟩
      refine ⟨⟨_, rfl, ?_⟩, below_drewC (Below.refl _ _) q⟩
      rw [decide_eq_true_iff, ← hx, ← hy, List.take_length, List.take_length]
set_option maxHeartbeats 3200000 in
set_option maxRecDepth 20000 in
theorem sameHot_any {w : World} (x y : HotS) (hx : HotOk w x) (hy : HotOk w y) :
    Calls Try.prog 26 #[.agg x.cs.toArray, .agg y.cs.toArray] w (Tells (hK x = hK y) w) := by
  have HE := Lib.hid (fun (wx : World) (hb : Below w.heap.size w wx) => eqIt_any (w := wx) x.ia y.ia x.il y.il x.ic y.ic x.items y.items hx.l hy.l (by have := hx.b; omega) (hx.below (Nat.le_refl _) hb).at_ (hy.below (Nat.le_refl _) hb).at_)
  clear hx hy
  obtain ⟨xr, xi, xc, xs, xa, xl, xk, xt⟩ := x
  obtain ⟨yr, yi, yc, ys, ya, yl, yk, yt⟩ := y
  dsimp only at HE
  show Calls _ _ #[.agg #[.string xr, .int .i64 xi, .int .i64 xc, .int .i64 xs, .slice xa xl xk], .agg #[.string yr, .int .i64 yi, .int .i64 yc, .int .i64 ys, .slice ya yl yk]] _ _
  obtain ⟨N, hN⟩ : ∃ N, w.heap.size = N := ⟨_, rfl⟩
  have h0 : ((w.alloc (.cells #[.string xr, .int .i64 xi, .int .i64 xc, .int .i64 xs, .slice xa xl xk] 44)).alloc (.cells #[.string yr, .int .i64 yi, .int .i64 yc, .int .i64 ys, .slice ya yl yk] 44)).heap[N]? = some (.cells #[.string xr, .int .i64 xi, .int .i64 xc, .int .i64 xs, .slice xa xl xk] 44) := by rw [get_allocC, if_neg (by rw [World.size_alloc]; omega), get_allocC, if_pos hN.symm]
  have h1 : ((w.alloc (.cells #[.string xr, .int .i64 xi, .int .i64 xc, .int .i64 xs, .slice xa xl xk] 44)).alloc (.cells #[.string yr, .int .i64 yi, .int .i64 yc, .int .i64 ys, .slice ya yl yk] 44)).heap[N + 1]? = some (.cells #[.string yr, .int .i64 yi, .int .i64 yc, .int .i64 ys, .slice ya yl yk] 44) := by rw [get_allocC, if_pos (by rw [World.size_alloc]; omega)]
  have HB := Lib.hid (show Below w.heap.size w ((w.alloc (.cells #[.string xr, .int .i64 xi, .int .i64 xc, .int .i64 xs, .slice xa xl xk] 44)).alloc (.cells #[.string yr, .int .i64 yi, .int .i64 yc, .int .i64 ys, .slice ya yl yk] 44)) from ((Below.refl _ _).alloc (Nat.le_refl _) _).alloc (by simp) _)
  obtain ⟨w0, hw0⟩ : ∃ w0, (w.alloc (.cells #[.string xr, .int .i64 xi, .int .i64 xc, .int .i64 xs, .slice xa xl xk] 44)).alloc (.cells #[.string yr, .int .i64 yi, .int .i64 yc, .int .i64 ys, .slice ya yl yk] 44) = w0 := ⟨_, rfl⟩
  rw [hw0] at HB h0 h1
  have d0 : w0.cell? ⟨N, 0, none⟩ = some (.string xr) := by simp only [World.cell?, h0]; rfl
  have d1 : w0.cell? ⟨N, 1, none⟩ = some (.int .i64 xi) := by simp only [World.cell?, h0]; rfl
  have d2 : w0.cell? ⟨N, 2, none⟩ = some (.int .i64 xc) := by simp only [World.cell?, h0]; rfl
  have d3 : w0.cell? ⟨N, 3, none⟩ = some (.int .i64 xs) := by simp only [World.cell?, h0]; rfl
  have d4 : w0.cell? ⟨N, 4, none⟩ = some (.slice xa xl xk) := by simp only [World.cell?, h0]; rfl
  have e0 : w0.cell? ⟨N + 1, 0, none⟩ = some (.string yr) := by simp only [World.cell?, h1]; rfl
  have e1 : w0.cell? ⟨N + 1, 1, none⟩ = some (.int .i64 yi) := by simp only [World.cell?, h1]; rfl
  have e2 : w0.cell? ⟨N + 1, 2, none⟩ = some (.int .i64 yc) := by simp only [World.cell?, h1]; rfl
  have e3 : w0.cell? ⟨N + 1, 3, none⟩ = some (.int .i64 ys) := by simp only [World.cell?, h1]; rfl
  have e4 : w0.cell? ⟨N + 1, 4, none⟩ = some (.slice ya yl yk) := by simp only [World.cell?, h1]; rfl
  clear h0 h1
  by_cases q0 : xr = yr
  · subst q0
    by_cases q1 : xi = yi
    · subst q1
      by_cases q2 : xc = yc
      · subst q2
        by_cases q3 : xs = ys
        · subst q3
          have HE := Lib.hid (HE.out w0 HB.out)
          go_enter Try.func26, Try.ntmps26
          go_wp2_with (fail)
          clear hw0 hN
          refine HE.out.mono ?_
          rintro e w1 ⟨⟨t, rfl, ht⟩, hb⟩
          have HT := Lib.hid ht
          have HBB := Lib.hid (HB.out.trans (hb.mono HB.out.size))
          clear ht hb HE
          go_wp2_with (fail)
          go_ret
          exact ⟨⟨t, rfl, HT.out.trans ⟨fun h => by subst h; rfl, fun h => by unfold hK at h; injections⟩⟩, HBB.out⟩
        · have Q := Lib.hid q3
          go_enter Try.func26, Try.ntmps26
          go_wp2_with (fail)
          go_ret
          exact ⟨⟨false, rfl, fun h => absurd h (by decide), fun h => absurd (by unfold hK at h; injections) Q.out⟩, HB.out⟩
      · have Q := Lib.hid q2
        go_enter Try.func26, Try.ntmps26
        go_wp2_with (fail)
        go_ret
        exact ⟨⟨false, rfl, fun h => absurd h (by decide), fun h => absurd (by unfold hK at h; injections) Q.out⟩, HB.out⟩
    · have Q := Lib.hid q1
      go_enter Try.func26, Try.ntmps26
      go_wp2_with (fail)
      go_ret
      exact ⟨⟨false, rfl, fun h => absurd h (by decide), fun h => absurd (by unfold hK at h; injections) Q.out⟩, HB.out⟩
  · have q0' : (xr.toList == yr.toList) = false := by rw [toList_decR]; exact decide_eq_false q0
    have Q := Lib.hid q0
    clear q0
    go_enter Try.func26, Try.ntmps26
    go_wp2_with (fail)
    go_ret
    exact ⟨⟨false, rfl, fun h => absurd h (by decide), fun h => absurd (by unfold hK at h; injections) Q.out⟩, HB.out⟩
set_option maxHeartbeats 3200000 in
set_option maxRecDepth 20000 in
theorem sameAuth_any {w : World} (x y : AuthS) (hx : AuthOk w x) (hy : AuthOk w y) :
    Calls Try.prog 28 #[.agg x.cs.toArray, .agg y.cs.toArray] w (Tells (aK x = aK y) w) := by
  have HE := Lib.hid (fun (wx : World) (hb : Below w.heap.size w wx) => eqTx_any (w := wx) x.oa y.oa x.ol y.ol x.oc y.oc x.orig y.orig hx.l hy.l (by have := hx.b; omega) (by have := hy.b; omega) (hx.below (Nat.le_refl _) hb).at_ (hy.below (Nat.le_refl _) hb).at_)
  clear hx hy
  obtain ⟨xr, xh, xa, xl, xk, xt⟩ := x
  obtain ⟨yr, yh, ya, yl, yk, yt⟩ := y
  dsimp only at HE
  show Calls _ _ #[.agg #[.string xr, .bool xh, .slice xa xl xk], .agg #[.string yr, .bool yh, .slice ya yl yk]] _ _
  obtain ⟨N, hN⟩ : ∃ N, w.heap.size = N := ⟨_, rfl⟩
  have h0 : ((w.alloc (.cells #[.string xr, .bool xh, .slice xa xl xk] 48)).alloc (.cells #[.string yr, .bool yh, .slice ya yl yk] 48)).heap[N]? = some (.cells #[.string xr, .bool xh, .slice xa xl xk] 48) := by rw [get_allocC, if_neg (by rw [World.size_alloc]; omega), get_allocC, if_pos hN.symm]
  have h1 : ((w.alloc (.cells #[.string xr, .bool xh, .slice xa xl xk] 48)).alloc (.cells #[.string yr, .bool yh, .slice ya yl yk] 48)).heap[N + 1]? = some (.cells #[.string yr, .bool yh, .slice ya yl yk] 48) := by rw [get_allocC, if_pos (by rw [World.size_alloc]; omega)]
  have HB := Lib.hid (show Below w.heap.size w ((w.alloc (.cells #[.string xr, .bool xh, .slice xa xl xk] 48)).alloc (.cells #[.string yr, .bool yh, .slice ya yl yk] 48)) from ((Below.refl _ _).alloc (Nat.le_refl _) _).alloc (by simp) _)
  obtain ⟨w0, hw0⟩ : ∃ w0, (w.alloc (.cells #[.string xr, .bool xh, .slice xa xl xk] 48)).alloc (.cells #[.string yr, .bool yh, .slice ya yl yk] 48) = w0 := ⟨_, rfl⟩
  rw [hw0] at HB h0 h1
  have d0 : w0.cell? ⟨N, 0, none⟩ = some (.string xr) := by simp only [World.cell?, h0]; rfl
  have d1 : w0.cell? ⟨N, 1, none⟩ = some (.bool xh) := by simp only [World.cell?, h0]; rfl
  have d2 : w0.cell? ⟨N, 2, none⟩ = some (.slice xa xl xk) := by simp only [World.cell?, h0]; rfl
  have e0 : w0.cell? ⟨N + 1, 0, none⟩ = some (.string yr) := by simp only [World.cell?, h1]; rfl
  have e1 : w0.cell? ⟨N + 1, 1, none⟩ = some (.bool yh) := by simp only [World.cell?, h1]; rfl
  have e2 : w0.cell? ⟨N + 1, 2, none⟩ = some (.slice ya yl yk) := by simp only [World.cell?, h1]; rfl
  clear h0 h1
  by_cases q0 : xr = yr
  · subst q0
    by_cases q1 : xh = yh
    · subst q1
      have HE := Lib.hid (HE.out w0 HB.out)
      go_enter Try.func28, Try.ntmps28
      go_wp2_with (fail)
      clear hw0 hN
      refine HE.out.mono ?_
      rintro e w1 ⟨⟨t, rfl, ht⟩, hb⟩
      have HT := Lib.hid ht
      have HBB := Lib.hid (HB.out.trans (hb.mono HB.out.size))
      clear ht hb HE
      go_wp2_with (fail)
      go_ret
      exact ⟨⟨t, rfl, HT.out.trans ⟨fun h => by subst h; rfl, fun h => by unfold aK at h; injections⟩⟩, HBB.out⟩
    · have q1' : (xh == yh) = false := beq_eq_false_iff_ne.2 q1
      have Q := Lib.hid q1
      clear q1
      go_enter Try.func28, Try.ntmps28
      go_wp2_with (fail)
      go_ret
      exact ⟨⟨false, rfl, fun h => absurd h (by decide), fun h => absurd (by unfold aK at h; injections) Q.out⟩, HB.out⟩
  · have q0' : (xr.toList == yr.toList) = false := by rw [toList_decR]; exact decide_eq_false q0
    have Q := Lib.hid q0
    clear q0
    go_enter Try.func28, Try.ntmps28
    go_wp2_with (fail)
    go_ret
    exact ⟨⟨false, rfl, fun h => absurd h (by decide), fun h => absurd (by unfold aK at h; injections) Q.out⟩, HB.out⟩
end Go.Proofs.Ytgkdpkpiejjfmaa
