/- The laws of the layer reject: RejectLess. -/
import Derived.Test.YtalpilahemajoaaLawRejB
namespace Go.Proofs.Ytalpilahemajoaa
open Go.RowKit
set_option linter.unusedVariables false
set_option linter.unusedSimpArgs false

theorem passB_less {thr : Bool} {cnt pa fl co pb fm cp : Int} (h : passB thr cnt pa fl co = true) (h1 : ¬ pa < pb) (h2 : ¬ fl < fm) (h3 : ¬ co < cp) : passB thr cnt pb fm cp = true := by
  unfold passB at *
  cases thr <;> simp at * <;> omega

theorem passB_more {thr : Bool} {cnt pa fl co : Int} (hc : cnt ≤ 9223372036854775807) (h : passB thr cnt pa fl co = true) : passB thr 9223372036854775807 pa fl co = true := by
  unfold passB at *
  cases thr <;> simp at * <;> omega

set_option maxHeartbeats 6400000 in
set_option maxRecDepth 100000 in
theorem rejless_walk (w : World) (s0 s1 : ByteArray) (thr : Bool) (cnt : Int) (w3 : (Lit.int .i64 cnt).wf = true) (strat : Int) (w4 : (Lit.int .u8 strat).wf = true) (ref : ByteArray) (shape : Int) (w6 : (Lit.int .u8 shape).wf = true) (warm : Int) (w7 : (Lit.int .i64 warm).wf = true) (queue : Int) (w8 : (Lit.int .i64 queue).wf = true) (cl : Bool) (id : Int) (w10 : (Lit.int .i64 id).wf = true) (fb : Bool)
    (pa : Int) (x0 : (Lit.int .i64 pa).wf = true) (fl : Int) (x1 : (Lit.int .i64 fl).wf = true) (co : Int) (x2 : (Lit.int .i64 co).wf = true)
    (pb : Int) (z0 : (Lit.int .i64 pb).wf = true) (fm : Int) (z1 : (Lit.int .i64 fm).wf = true) (cp : Int) (z2 : (Lit.int .i64 cp).wf = true) :
    Calls Try.prog 3 #[.agg #[.string s0, .string s1, .bool thr, .int .i64 cnt, .int .u8 strat, .string ref, .int .u8 shape, .int .i64 warm, .int .i64 queue, .bool cl, .int .i64 id, .bool fb], .agg #[.int .i64 pa, .int .i64 fl, .int .i64 co], .agg #[.int .i64 pb, .int .i64 fm, .int .i64 cp]] w fun e w' => e = .returned (.bool true) ∧ Below w.heap.size w w' := by
  obtain ⟨a0, a1⟩ := wf64R w3
  obtain ⟨b0, b1⟩ := wf64R x0
  obtain ⟨c0, c1⟩ := wf64R x2
  obtain ⟨d0, d1⟩ := wf64R z0
  obtain ⟨e0, e1⟩ := wf64R z2
  clear w3 w4 w6 w7 w8 w10 x0 x1 x2 z0 z1 z2
  have HL := Lib.hid (fun (w : World) => rejlive_any w)
  have HX := Lib.hid (fun (w : World) => passes_any s0 s1 thr cnt strat ref shape warm queue cl id fb pa fl co w a0 a1 b0 b1 c0 c1)
  have HY := Lib.hid (fun (w : World) => passes_any s0 s1 thr cnt strat ref shape warm queue cl id fb pb fm cp w a0 a1 d0 d1 e0 e1)
  have HM := Lib.hid (fun (w : World) => passes_any s0 s1 thr 9223372036854775807 strat ref shape warm queue cl id fb pa fl co w (by omega) (by omega) b0 b1 c0 c1)
  unfold flowV at HX HY HM
  have KL := Lib.hid (fun h h1 h2 h3 => passB_less (thr := thr) (cnt := cnt) (pa := pa) (fl := fl) (co := co) (pb := pb) (fm := fm) (cp := cp) h h1 h2 h3)
  have KM := Lib.hid (fun h => passB_more (thr := thr) (cnt := cnt) (pa := pa) (fl := fl) (co := co) a1 h)
  generalize passB thr cnt pa fl co = PX at *
  generalize passB thr cnt pb fm cp = PY at *
  generalize passB thr 9223372036854775807 pa fl co = PM at *
  have SK1 := Lib.hid (show ∀ wx : World, wx.heap[w.heap.size]? = some (.cells #[.string s0, .string s1, .bool thr, .int .i64 cnt, .int .u8 strat, .string ref, .int .u8 shape, .int .i64 warm, .int .i64 queue, .bool cl, .int .i64 id, .bool fb] 25) → wx.heap[w.heap.size + 1]? = some (.cells #[.int .i64 pa, .int .i64 fl, .int .i64 co] 27) → wx.heap[w.heap.size + 2]? = some (.cells #[.int .i64 pb, .int .i64 fm, .int .i64 cp] 27) → Below w.heap.size w wx → (fun wx => (wx.cell? ⟨w.heap.size, 0, none⟩ = some (.string s0) ∧ wx.cell? ⟨w.heap.size, 1, none⟩ = some (.string s1) ∧ wx.cell? ⟨w.heap.size, 2, none⟩ = some (.bool thr) ∧ wx.cell? ⟨w.heap.size, 3, none⟩ = some (.int .i64 cnt) ∧ wx.cell? ⟨w.heap.size, 4, none⟩ = some (.int .u8 strat) ∧ wx.cell? ⟨w.heap.size, 5, none⟩ = some (.string ref) ∧ wx.cell? ⟨w.heap.size, 6, none⟩ = some (.int .u8 shape) ∧ wx.cell? ⟨w.heap.size, 7, none⟩ = some (.int .i64 warm) ∧ wx.cell? ⟨w.heap.size, 8, none⟩ = some (.int .i64 queue) ∧ wx.cell? ⟨w.heap.size, 9, none⟩ = some (.bool cl) ∧ wx.cell? ⟨w.heap.size, 10, none⟩ = some (.int .i64 id) ∧ wx.cell? ⟨w.heap.size, 11, none⟩ = some (.bool fb) ∧ wx.cell? ⟨w.heap.size + 1, 0, none⟩ = some (.int .i64 pa) ∧ wx.cell? ⟨w.heap.size + 1, 1, none⟩ = some (.int .i64 fl) ∧ wx.cell? ⟨w.heap.size + 1, 2, none⟩ = some (.int .i64 co) ∧ wx.cell? ⟨w.heap.size + 2, 0, none⟩ = some (.int .i64 pb) ∧ wx.cell? ⟨w.heap.size + 2, 1, none⟩ = some (.int .i64 fm) ∧ wx.cell? ⟨w.heap.size + 2, 2, none⟩ = some (.int .i64 cp)) ∧ (wx.heap[w.heap.size]? = some (.cells #[.string s0, .string s1, .bool thr, .int .i64 cnt, .int .u8 strat, .string ref, .int .u8 shape, .int .i64 warm, .int .i64 queue, .bool cl, .int .i64 id, .bool fb] 25) ∧ wx.heap[w.heap.size + 1]? = some (.cells #[.int .i64 pa, .int .i64 fl, .int .i64 co] 27) ∧ wx.heap[w.heap.size + 2]? = some (.cells #[.int .i64 pb, .int .i64 fm, .int .i64 cp] 27)) ∧ Below w.heap.size w wx) wx from fun wx h0 h1 h2 hz => by
    refine ⟨?_, ⟨h0, h1, h2⟩, hz⟩
    simp only [World.cell?, h0, h1, h2]
    repeat' apply And.intro
    all_goals rfl)
  have SS1 := Lib.hid (show ∀ wa wb : World, (fun wx => (wx.cell? ⟨w.heap.size, 0, none⟩ = some (.string s0) ∧ wx.cell? ⟨w.heap.size, 1, none⟩ = some (.string s1) ∧ wx.cell? ⟨w.heap.size, 2, none⟩ = some (.bool thr) ∧ wx.cell? ⟨w.heap.size, 3, none⟩ = some (.int .i64 cnt) ∧ wx.cell? ⟨w.heap.size, 4, none⟩ = some (.int .u8 strat) ∧ wx.cell? ⟨w.heap.size, 5, none⟩ = some (.string ref) ∧ wx.cell? ⟨w.heap.size, 6, none⟩ = some (.int .u8 shape) ∧ wx.cell? ⟨w.heap.size, 7, none⟩ = some (.int .i64 warm) ∧ wx.cell? ⟨w.heap.size, 8, none⟩ = some (.int .i64 queue) ∧ wx.cell? ⟨w.heap.size, 9, none⟩ = some (.bool cl) ∧ wx.cell? ⟨w.heap.size, 10, none⟩ = some (.int .i64 id) ∧ wx.cell? ⟨w.heap.size, 11, none⟩ = some (.bool fb) ∧ wx.cell? ⟨w.heap.size + 1, 0, none⟩ = some (.int .i64 pa) ∧ wx.cell? ⟨w.heap.size + 1, 1, none⟩ = some (.int .i64 fl) ∧ wx.cell? ⟨w.heap.size + 1, 2, none⟩ = some (.int .i64 co) ∧ wx.cell? ⟨w.heap.size + 2, 0, none⟩ = some (.int .i64 pb) ∧ wx.cell? ⟨w.heap.size + 2, 1, none⟩ = some (.int .i64 fm) ∧ wx.cell? ⟨w.heap.size + 2, 2, none⟩ = some (.int .i64 cp)) ∧ (wx.heap[w.heap.size]? = some (.cells #[.string s0, .string s1, .bool thr, .int .i64 cnt, .int .u8 strat, .string ref, .int .u8 shape, .int .i64 warm, .int .i64 queue, .bool cl, .int .i64 id, .bool fb] 25) ∧ wx.heap[w.heap.size + 1]? = some (.cells #[.int .i64 pa, .int .i64 fl, .int .i64 co] 27) ∧ wx.heap[w.heap.size + 2]? = some (.cells #[.int .i64 pb, .int .i64 fm, .int .i64 cp] 27)) ∧ Below w.heap.size w wx) wa → Below wa.heap.size wa wb → (fun wx => (wx.cell? ⟨w.heap.size, 0, none⟩ = some (.string s0) ∧ wx.cell? ⟨w.heap.size, 1, none⟩ = some (.string s1) ∧ wx.cell? ⟨w.heap.size, 2, none⟩ = some (.bool thr) ∧ wx.cell? ⟨w.heap.size, 3, none⟩ = some (.int .i64 cnt) ∧ wx.cell? ⟨w.heap.size, 4, none⟩ = some (.int .u8 strat) ∧ wx.cell? ⟨w.heap.size, 5, none⟩ = some (.string ref) ∧ wx.cell? ⟨w.heap.size, 6, none⟩ = some (.int .u8 shape) ∧ wx.cell? ⟨w.heap.size, 7, none⟩ = some (.int .i64 warm) ∧ wx.cell? ⟨w.heap.size, 8, none⟩ = some (.int .i64 queue) ∧ wx.cell? ⟨w.heap.size, 9, none⟩ = some (.bool cl) ∧ wx.cell? ⟨w.heap.size, 10, none⟩ = some (.int .i64 id) ∧ wx.cell? ⟨w.heap.size, 11, none⟩ = some (.bool fb) ∧ wx.cell? ⟨w.heap.size + 1, 0, none⟩ = some (.int .i64 pa) ∧ wx.cell? ⟨w.heap.size + 1, 1, none⟩ = some (.int .i64 fl) ∧ wx.cell? ⟨w.heap.size + 1, 2, none⟩ = some (.int .i64 co) ∧ wx.cell? ⟨w.heap.size + 2, 0, none⟩ = some (.int .i64 pb) ∧ wx.cell? ⟨w.heap.size + 2, 1, none⟩ = some (.int .i64 fm) ∧ wx.cell? ⟨w.heap.size + 2, 2, none⟩ = some (.int .i64 cp)) ∧ (wx.heap[w.heap.size]? = some (.cells #[.string s0, .string s1, .bool thr, .int .i64 cnt, .int .u8 strat, .string ref, .int .u8 shape, .int .i64 warm, .int .i64 queue, .bool cl, .int .i64 id, .bool fb] 25) ∧ wx.heap[w.heap.size + 1]? = some (.cells #[.int .i64 pa, .int .i64 fl, .int .i64 co] 27) ∧ wx.heap[w.heap.size + 2]? = some (.cells #[.int .i64 pb, .int .i64 fm, .int .i64 cp] 27)) ∧ Below w.heap.size w wx) wb from fun wa wb hs hb => by
    obtain ⟨_, ⟨h0, h1, h2⟩, hz⟩ := hs
    exact SK1.out wb ((hb.block _ (Array.getElem?_eq_some_iff.1 h0).1).trans h0) ((hb.block _ (Array.getElem?_eq_some_iff.1 h1).1).trans h1) ((hb.block _ (Array.getElem?_eq_some_iff.1 h2).1).trans h2) (hz.trans (hb.mono hz.size)))

  go_enter Try.func3, Try.ntmps3
  go_wp2_with (fail)
  have S0 : (fun wx => (wx.cell? ⟨w.heap.size, 0, none⟩ = some (.string s0) ∧ wx.cell? ⟨w.heap.size, 1, none⟩ = some (.string s1) ∧ wx.cell? ⟨w.heap.size, 2, none⟩ = some (.bool thr) ∧ wx.cell? ⟨w.heap.size, 3, none⟩ = some (.int .i64 cnt) ∧ wx.cell? ⟨w.heap.size, 4, none⟩ = some (.int .u8 strat) ∧ wx.cell? ⟨w.heap.size, 5, none⟩ = some (.string ref) ∧ wx.cell? ⟨w.heap.size, 6, none⟩ = some (.int .u8 shape) ∧ wx.cell? ⟨w.heap.size, 7, none⟩ = some (.int .i64 warm) ∧ wx.cell? ⟨w.heap.size, 8, none⟩ = some (.int .i64 queue) ∧ wx.cell? ⟨w.heap.size, 9, none⟩ = some (.bool cl) ∧ wx.cell? ⟨w.heap.size, 10, none⟩ = some (.int .i64 id) ∧ wx.cell? ⟨w.heap.size, 11, none⟩ = some (.bool fb) ∧ wx.cell? ⟨w.heap.size + 1, 0, none⟩ = some (.int .i64 pa) ∧ wx.cell? ⟨w.heap.size + 1, 1, none⟩ = some (.int .i64 fl) ∧ wx.cell? ⟨w.heap.size + 1, 2, none⟩ = some (.int .i64 co) ∧ wx.cell? ⟨w.heap.size + 2, 0, none⟩ = some (.int .i64 pb) ∧ wx.cell? ⟨w.heap.size + 2, 1, none⟩ = some (.int .i64 fm) ∧ wx.cell? ⟨w.heap.size + 2, 2, none⟩ = some (.int .i64 cp)) ∧ (wx.heap[w.heap.size]? = some (.cells #[.string s0, .string s1, .bool thr, .int .i64 cnt, .int .u8 strat, .string ref, .int .u8 shape, .int .i64 warm, .int .i64 queue, .bool cl, .int .i64 id, .bool fb] 25) ∧ wx.heap[w.heap.size + 1]? = some (.cells #[.int .i64 pa, .int .i64 fl, .int .i64 co] 27) ∧ wx.heap[w.heap.size + 2]? = some (.cells #[.int .i64 pb, .int .i64 fm, .int .i64 cp] 27)) ∧ Below w.heap.size w wx) ((((w.alloc (.cells #[.string s0, .string s1, .bool thr, .int .i64 cnt, .int .u8 strat, .string ref, .int .u8 shape, .int .i64 warm, .int .i64 queue, .bool cl, .int .i64 id, .bool fb] 25)).alloc (.cells #[.int .i64 pa, .int .i64 fl, .int .i64 co] 27)).alloc (.cells #[.int .i64 pb, .int .i64 fm, .int .i64 cp] 27))) := by
    refine SK1.out _ ?_ ?_ ?_ ?_
    · show (((w.alloc _).alloc _).alloc _).heap[w.heap.size]? = _
      rw [Below.heap_alloc _ _ _ (by simp; omega), Below.heap_alloc _ _ _ (by simp)]
      exact World.alloc_heap_new w _
    · show (((w.alloc _).alloc _).alloc _).heap[w.heap.size + 1]? = _
      rw [Below.heap_alloc _ _ _ (by simp)]
      have := World.alloc_heap_new (w.alloc (.cells #[.string s0, .string s1, .bool thr, .int .i64 cnt, .int .u8 strat, .string ref, .int .u8 shape, .int .i64 warm, .int .i64 queue, .bool cl, .int .i64 id, .bool fb] 25)) (.cells #[.int .i64 pa, .int .i64 fl, .int .i64 co] 27)
      rwa [World.size_alloc] at this
    · have := World.alloc_heap_new ((w.alloc (.cells #[.string s0, .string s1, .bool thr, .int .i64 cnt, .int .u8 strat, .string ref, .int .u8 shape, .int .i64 warm, .int .i64 queue, .bool cl, .int .i64 id, .bool fb] 25)).alloc (.cells #[.int .i64 pa, .int .i64 fl, .int .i64 co] 27)) (.cells #[.int .i64 pb, .int .i64 fm, .int .i64 cp] 27)
      rwa [World.size_alloc, World.size_alloc] at this
    · exact ((((Below.refl _ _).alloc (Nat.le_refl _) _).alloc (by simp) _).alloc (by simp; omega) _)
  refine (HX.out _).mono ?_
  rintro e wa ⟨rfl, ha⟩
  have SA := SS1.out _ _ S0 ha
  clear S0 ha
  obtain ⟨⟨k0, k1, k2, k3, k4, k5, k6, k7, k8, k9, k10, k11, k12, k13, k14, k15, k16, k17⟩, ⟨h0, h1, h2⟩, hz⟩ := SA
  by_cases g0 : PX = true
  · subst g0
    by_cases g1 : pa < pb
    · go_wp2_with (fail)
      refine (HL.out _).mono ?_
      rintro e wb ⟨rfl, hb⟩
      go_wp2_with (fail)
      go_ret
      exact ⟨rfl, hz.trans (hb.mono hz.size)⟩
    · by_cases g2 : fl < fm
      · go_wp2_with (fail)
        refine (HL.out _).mono ?_
        rintro e wb ⟨rfl, hb⟩
        go_wp2_with (fail)
        go_ret
        exact ⟨rfl, hz.trans (hb.mono hz.size)⟩
      · by_cases g3 : co < cp
        · go_wp2_with (fail)
          refine (HL.out _).mono ?_
          rintro e wb ⟨rfl, hb⟩
          go_wp2_with (fail)
          go_ret
          exact ⟨rfl, hz.trans (hb.mono hz.size)⟩
        · obtain rfl := KL.out rfl (by omega) (by omega) (by omega)
          obtain rfl := KM.out rfl
          go_wp2_with (fail)
          have lt2 : w.heap.size + 2 < wa.heap.size := (Array.getElem?_eq_some_iff.1 h2).1
          have M0 : (wa.alloc (.cells #[.string s0, .string s1, .bool thr, .int .i64 9223372036854775807, .int .u8 strat, .string ref, .int .u8 shape, .int .i64 warm, .int .i64 queue, .bool cl, .int .i64 id, .bool fb] 25)).heap[wa.heap.size]? = some (.cells #[.string s0, .string s1, .bool thr, .int .i64 9223372036854775807, .int .u8 strat, .string ref, .int .u8 shape, .int .i64 warm, .int .i64 queue, .bool cl, .int .i64 id, .bool fb] 25) := World.alloc_heap_new wa _
          have M1 := (Below.refl wa.heap.size wa).alloc (Nat.le_refl _) (.cells #[.string s0, .string s1, .bool thr, .int .i64 9223372036854775807, .int .u8 strat, .string ref, .int .u8 shape, .int .i64 warm, .int .i64 queue, .bool cl, .int .i64 id, .bool fb] 25)
          have SM := SK1.out (wa.alloc (.cells #[.string s0, .string s1, .bool thr, .int .i64 9223372036854775807, .int .u8 strat, .string ref, .int .u8 shape, .int .i64 warm, .int .i64 queue, .bool cl, .int .i64 id, .bool fb] 25)) ((Below.heap_alloc _ _ _ (by omega)).trans h0) ((Below.heap_alloc _ _ _ (by omega)).trans h1) ((Below.heap_alloc _ _ _ (by omega)).trans h2) (hz.trans (M1.mono hz.size))
          generalize wa.alloc (.cells #[.string s0, .string s1, .bool thr, .int .i64 9223372036854775807, .int .u8 strat, .string ref, .int .u8 shape, .int .i64 warm, .int .i64 queue, .bool cl, .int .i64 id, .bool fb] 25) = wm at *
          refine (HL.out _).mono ?_
          rintro e wb ⟨rfl, hb⟩
          have SB := SS1.out _ _ SM hb
          have M2 := (hb.block _ (Array.getElem?_eq_some_iff.1 M0).1).trans M0
          clear SM hb M1 M0 h0 h1 h2 hz
          clear k0 k1 k2 k3 k4 k5 k6 k7 k8 k9 k10 k11 k12 k13 k14 k15 k16 k17
          obtain ⟨⟨k0, k1, k2, k3, k4, k5, k6, k7, k8, k9, k10, k11, k12, k13, k14, k15, k16, k17⟩, ⟨h0, h1, h2⟩, hz⟩ := SB
          go_wp2_with (fail)
          refine (HY.out _).mono ?_
          rintro e wc ⟨rfl, hb⟩
          have SB := SS1.out _ _ (SK1.out _ h0 h1 h2 hz) hb
          have M3 := (hb.block _ (Array.getElem?_eq_some_iff.1 M2).1).trans M2
          clear hb M2 h0 h1 h2 hz
          clear k0 k1 k2 k3 k4 k5 k6 k7 k8 k9 k10 k11 k12 k13 k14 k15 k16 k17
          obtain ⟨⟨k0, k1, k2, k3, k4, k5, k6, k7, k8, k9, k10, k11, k12, k13, k14, k15, k16, k17⟩, ⟨h0, h1, h2⟩, hz⟩ := SB
          have m0 : wc.cell? ⟨wa.heap.size, 0, none⟩ = some (.string s0) := by simp only [World.cell?, M3]; rfl
          have m1 : wc.cell? ⟨wa.heap.size, 1, none⟩ = some (.string s1) := by simp only [World.cell?, M3]; rfl
          have m2 : wc.cell? ⟨wa.heap.size, 2, none⟩ = some (.bool thr) := by simp only [World.cell?, M3]; rfl
          have m3 : wc.cell? ⟨wa.heap.size, 3, none⟩ = some (.int .i64 9223372036854775807) := by simp only [World.cell?, M3]; rfl
          have m4 : wc.cell? ⟨wa.heap.size, 4, none⟩ = some (.int .u8 strat) := by simp only [World.cell?, M3]; rfl
          have m5 : wc.cell? ⟨wa.heap.size, 5, none⟩ = some (.string ref) := by simp only [World.cell?, M3]; rfl
          have m6 : wc.cell? ⟨wa.heap.size, 6, none⟩ = some (.int .u8 shape) := by simp only [World.cell?, M3]; rfl
          have m7 : wc.cell? ⟨wa.heap.size, 7, none⟩ = some (.int .i64 warm) := by simp only [World.cell?, M3]; rfl
          have m8 : wc.cell? ⟨wa.heap.size, 8, none⟩ = some (.int .i64 queue) := by simp only [World.cell?, M3]; rfl
          have m9 : wc.cell? ⟨wa.heap.size, 9, none⟩ = some (.bool cl) := by simp only [World.cell?, M3]; rfl
          have m10 : wc.cell? ⟨wa.heap.size, 10, none⟩ = some (.int .i64 id) := by simp only [World.cell?, M3]; rfl
          have m11 : wc.cell? ⟨wa.heap.size, 11, none⟩ = some (.bool fb) := by simp only [World.cell?, M3]; rfl
          go_wp2_with (fail)
          refine (HM.out _).mono ?_
          rintro e wd ⟨rfl, hb⟩
          go_wp2_with (fail)
          go_ret
          exact ⟨rfl, hz.trans (hb.mono hz.size)⟩
  · simp only [Bool.not_eq_true] at g0
    subst g0
    go_wp2_with (fail)
    refine (HL.out _).mono ?_
    rintro e wb ⟨rfl, hb⟩
    go_wp2_with (fail)
    go_ret
    exact ⟨rfl, hz.trans (hb.mono hz.size)⟩
end Go.Proofs.Ytalpilahemajoaa
