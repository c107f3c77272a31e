/- The laws of the layer reject: RejectPasses. -/
import Derived.Test.YtalpilahemajoaaLawRejA
import Derived.Test.YtalpilahemajoaaRefD
import Derived.Test.YtalpilahemajoaaRecs
import Derived.Deep.RegionHeld3
namespace Go.Proofs.Ytalpilahemajoaa
open Go.RowKit
set_option linter.unusedVariables false
set_option linter.unusedSimpArgs false

theorem wf64R {n : Int} (h : (Lit.int .i64 n).wf = true) : -9223372036854775808 ≤ n ∧ n ≤ 9223372036854775807 := by
  simp only [Lit.wf, IntKind.min, IntKind.max, IntKind.signed, IntKind.bits, Bool.and_eq_true, decide_eq_true_eq, if_true] at h
  omega

set_option maxHeartbeats 3200000 in
set_option maxRecDepth 100000 in
theorem rpasses_any (s0 s1 : ByteArray) (thr : Bool) (cnt strat : Int) (ref : ByteArray) (shape warm queue : Int) (cl : Bool) (id : Int) (fb : Bool) (pa fl co : Int) (w : World)
    (a0 : -9223372036854775808 ≤ cnt) (a1 : cnt ≤ 9223372036854775807) (b0 : -9223372036854775808 ≤ pa) (b1 : pa ≤ 9223372036854775807) (c0 : -9223372036854775808 ≤ co) (c1 : co ≤ 9223372036854775807) :
    Calls Try.prog 14 #[.agg #[.string s0, .string s1, .bool thr, .int .i64 cnt, .int .u8 strat, .string ref, .int .u8 shape, .int .i64 warm, .int .i64 queue, .bool cl, .int .i64 id, .bool fb], .int .i64 pa, .int .i64 fl, .int .i64 co] w fun e w' => e = .returned (.bool (passB thr cnt pa fl co)) ∧ Below w.heap.size w w' := by
  have B1 := (Below.refl w.heap.size w).alloc (Nat.le_refl _) (.cells #[.string s0, .string s1, .bool thr, .int .i64 cnt, .int .u8 strat, .string ref, .int .u8 shape, .int .i64 warm, .int .i64 queue, .bool cl, .int .i64 id, .bool fb] 25)
  cases thr
  · have e0 : passB false cnt pa fl co = decide (pa + co ≤ cnt) := rfl
    rw [e0]
    clear e0
    cases hf : fitB (pa + co) with
    | true =>
      have e1 := Lib.hid (fitN_yes hf)
      have e2 := Lib.hid (fitE_yes hf)
      clear hf
      go_enter Try.func14, Try.ntmps14
      go_wp2_with (fail)
      refine (radd_any pa co _ b0 b1 c0 c1).mono ?_
      rintro e w2 ⟨rfl, hb2⟩
      rw [e1.out, e2.out]
      have d3 : w2.cell? ⟨w.heap.size, 3, none⟩ = some (.int .i64 cnt) := (hb2.cell (p := ⟨w.heap.size, 3, none⟩) (by simp)).trans (by simp [go_sem])
      go_wp2_with (fail)
      go_ret
      exact ⟨rfl, B1.trans (hb2.mono B1.size)⟩
    | false =>
      have hn : ¬ (-9223372036854775808 ≤ pa + co ∧ pa + co ≤ 9223372036854775807) := by rw [← fitB_iff, hf]; decide
      have e1 := Lib.hid (fitN_no hf)
      have e2 := Lib.hid (fitE_no hf)
      have e3 : decide (pa + co ≤ cnt) = decide (pa < 0) := by by_cases h : pa < 0 <;> simp [h] <;> omega
      rw [e3]
      clear hf e3
      go_enter Try.func14, Try.ntmps14
      go_wp2_with (fail)
      refine (radd_any pa co _ b0 b1 c0 c1).mono ?_
      rintro e w2 ⟨rfl, hb2⟩
      rw [e1.out, e2.out]
      go_wp2_with (fail)
      go_ret
      exact ⟨rfl, B1.trans (hb2.mono B1.size)⟩
  · have e0 : passB true cnt pa fl co = decide (fl < cnt) := rfl
    rw [e0]
    clear e0
    go_enter Try.func14, Try.ntmps14
    go_wp2_with (fail)
    go_ret
    exact ⟨rfl, B1⟩

set_option maxHeartbeats 6400000 in
set_option maxRecDepth 100000 in
theorem rejpasses_walk (w : World) (s0 s1 : ByteArray) (thr : Bool) (cnt : Int) (w3 : (Lit.int .i64 cnt).wf = true) (strat : Int) (w4 : (Lit.int .u8 strat).wf = true) (ref : ByteArray) (shape : Int) (w6 : (Lit.int .u8 shape).wf = true) (warm : Int) (w7 : (Lit.int .i64 warm).wf = true) (queue : Int) (w8 : (Lit.int .i64 queue).wf = true) (cl : Bool) (id : Int) (w10 : (Lit.int .i64 id).wf = true) (fb : Bool)
    (pa : Int) (x0 : (Lit.int .i64 pa).wf = true) (fl : Int) (x1 : (Lit.int .i64 fl).wf = true) (co : Int) (x2 : (Lit.int .i64 co).wf = true) :
    Calls Try.prog 6 #[.agg #[.string s0, .string s1, .bool thr, .int .i64 cnt, .int .u8 strat, .string ref, .int .u8 shape, .int .i64 warm, .int .i64 queue, .bool cl, .int .i64 id, .bool fb], .agg #[.int .i64 pa, .int .i64 fl, .int .i64 co]] w fun e w' => e = .returned (.bool true) ∧ Below w.heap.size w w' := by
  obtain ⟨a0, a1⟩ := wf64R w3
  obtain ⟨b0, b1⟩ := wf64R x0
  obtain ⟨c0, c1⟩ := wf64R x2
  clear w3 w4 w6 w7 w8 w10 x0 x1 x2
  have HL := Lib.hid (fun (w : World) => rejlive_any w)
  have HP := Lib.hid (fun (w : World) => passes_any s0 s1 thr cnt strat ref shape warm queue cl id fb pa fl co w a0 a1 b0 b1 c0 c1)
  have HR := Lib.hid (fun (w : World) => rpasses_any s0 s1 thr cnt strat ref shape warm queue cl id fb pa fl co w a0 a1 b0 b1 c0 c1)
  unfold flowV at HP
  generalize passB thr cnt pa fl co = PB at *
  have SK := Lib.hid (show ∀ wx : World, wx.heap[w.heap.size]? = some (.cells #[.string s0, .string s1, .bool thr, .int .i64 cnt, .int .u8 strat, .string ref, .int .u8 shape, .int .i64 warm, .int .i64 queue, .bool cl, .int .i64 id, .bool fb] 25) → wx.heap[w.heap.size + 1]? = some (.cells #[.int .i64 pa, .int .i64 fl, .int .i64 co] 27) → Below w.heap.size w wx → (fun wx => (wx.cell? ⟨w.heap.size, 0, none⟩ = some (.string s0) ∧ wx.cell? ⟨w.heap.size, 1, none⟩ = some (.string s1) ∧ wx.cell? ⟨w.heap.size, 2, none⟩ = some (.bool thr) ∧ wx.cell? ⟨w.heap.size, 3, none⟩ = some (.int .i64 cnt) ∧ wx.cell? ⟨w.heap.size, 4, none⟩ = some (.int .u8 strat) ∧ wx.cell? ⟨w.heap.size, 5, none⟩ = some (.string ref) ∧ wx.cell? ⟨w.heap.size, 6, none⟩ = some (.int .u8 shape) ∧ wx.cell? ⟨w.heap.size, 7, none⟩ = some (.int .i64 warm) ∧ wx.cell? ⟨w.heap.size, 8, none⟩ = some (.int .i64 queue) ∧ wx.cell? ⟨w.heap.size, 9, none⟩ = some (.bool cl) ∧ wx.cell? ⟨w.heap.size, 10, none⟩ = some (.int .i64 id) ∧ wx.cell? ⟨w.heap.size, 11, none⟩ = some (.bool fb) ∧ wx.cell? ⟨w.heap.size + 1, 0, none⟩ = some (.int .i64 pa) ∧ wx.cell? ⟨w.heap.size + 1, 1, none⟩ = some (.int .i64 fl) ∧ wx.cell? ⟨w.heap.size + 1, 2, none⟩ = some (.int .i64 co)) ∧ wx.heap[w.heap.size]? = some (.cells #[.string s0, .string s1, .bool thr, .int .i64 cnt, .int .u8 strat, .string ref, .int .u8 shape, .int .i64 warm, .int .i64 queue, .bool cl, .int .i64 id, .bool fb] 25) ∧ wx.heap[w.heap.size + 1]? = some (.cells #[.int .i64 pa, .int .i64 fl, .int .i64 co] 27) ∧ Below w.heap.size w wx) wx from fun wx h1 h2 h3 => by
    refine ⟨?_, h1, h2, h3⟩
    simp only [World.cell?, h1, h2]
    repeat' apply And.intro
    all_goals rfl)
  have SS := Lib.hid (show ∀ wa wb : World, (fun wx => (wx.cell? ⟨w.heap.size, 0, none⟩ = some (.string s0) ∧ wx.cell? ⟨w.heap.size, 1, none⟩ = some (.string s1) ∧ wx.cell? ⟨w.heap.size, 2, none⟩ = some (.bool thr) ∧ wx.cell? ⟨w.heap.size, 3, none⟩ = some (.int .i64 cnt) ∧ wx.cell? ⟨w.heap.size, 4, none⟩ = some (.int .u8 strat) ∧ wx.cell? ⟨w.heap.size, 5, none⟩ = some (.string ref) ∧ wx.cell? ⟨w.heap.size, 6, none⟩ = some (.int .u8 shape) ∧ wx.cell? ⟨w.heap.size, 7, none⟩ = some (.int .i64 warm) ∧ wx.cell? ⟨w.heap.size, 8, none⟩ = some (.int .i64 queue) ∧ wx.cell? ⟨w.heap.size, 9, none⟩ = some (.bool cl) ∧ wx.cell? ⟨w.heap.size, 10, none⟩ = some (.int .i64 id) ∧ wx.cell? ⟨w.heap.size, 11, none⟩ = some (.bool fb) ∧ wx.cell? ⟨w.heap.size + 1, 0, none⟩ = some (.int .i64 pa) ∧ wx.cell? ⟨w.heap.size + 1, 1, none⟩ = some (.int .i64 fl) ∧ wx.cell? ⟨w.heap.size + 1, 2, none⟩ = some (.int .i64 co)) ∧ wx.heap[w.heap.size]? = some (.cells #[.string s0, .string s1, .bool thr, .int .i64 cnt, .int .u8 strat, .string ref, .int .u8 shape, .int .i64 warm, .int .i64 queue, .bool cl, .int .i64 id, .bool fb] 25) ∧ wx.heap[w.heap.size + 1]? = some (.cells #[.int .i64 pa, .int .i64 fl, .int .i64 co] 27) ∧ Below w.heap.size w wx) wa → Below wa.heap.size wa wb → (fun wx => (wx.cell? ⟨w.heap.size, 0, none⟩ = some (.string s0) ∧ wx.cell? ⟨w.heap.size, 1, none⟩ = some (.string s1) ∧ wx.cell? ⟨w.heap.size, 2, none⟩ = some (.bool thr) ∧ wx.cell? ⟨w.heap.size, 3, none⟩ = some (.int .i64 cnt) ∧ wx.cell? ⟨w.heap.size, 4, none⟩ = some (.int .u8 strat) ∧ wx.cell? ⟨w.heap.size, 5, none⟩ = some (.string ref) ∧ wx.cell? ⟨w.heap.size, 6, none⟩ = some (.int .u8 shape) ∧ wx.cell? ⟨w.heap.size, 7, none⟩ = some (.int .i64 warm) ∧ wx.cell? ⟨w.heap.size, 8, none⟩ = some (.int .i64 queue) ∧ wx.cell? ⟨w.heap.size, 9, none⟩ = some (.bool cl) ∧ wx.cell? ⟨w.heap.size, 10, none⟩ = some (.int .i64 id) ∧ wx.cell? ⟨w.heap.size, 11, none⟩ = some (.bool fb) ∧ wx.cell? ⟨w.heap.size + 1, 0, none⟩ = some (.int .i64 pa) ∧ wx.cell? ⟨w.heap.size + 1, 1, none⟩ = some (.int .i64 fl) ∧ wx.cell? ⟨w.heap.size + 1, 2, none⟩ = some (.int .i64 co)) ∧ wx.heap[w.heap.size]? = some (.cells #[.string s0, .string s1, .bool thr, .int .i64 cnt, .int .u8 strat, .string ref, .int .u8 shape, .int .i64 warm, .int .i64 queue, .bool cl, .int .i64 id, .bool fb] 25) ∧ wx.heap[w.heap.size + 1]? = some (.cells #[.int .i64 pa, .int .i64 fl, .int .i64 co] 27) ∧ Below w.heap.size w wx) wb from fun wa wb hs hb => by
    obtain ⟨_, h1, h2, h3⟩ := hs
    exact SK.out wb ((hb.block _ (Array.getElem?_eq_some_iff.1 h1).1).trans h1) ((hb.block _ (Array.getElem?_eq_some_iff.1 h2).1).trans h2) (h3.trans (hb.mono h3.size)))
  go_enter Try.func6, Try.ntmps6
  go_wp2_with (fail)
  have S0 : (fun wx => (wx.cell? ⟨w.heap.size, 0, none⟩ = some (.string s0) ∧ wx.cell? ⟨w.heap.size, 1, none⟩ = some (.string s1) ∧ wx.cell? ⟨w.heap.size, 2, none⟩ = some (.bool thr) ∧ wx.cell? ⟨w.heap.size, 3, none⟩ = some (.int .i64 cnt) ∧ wx.cell? ⟨w.heap.size, 4, none⟩ = some (.int .u8 strat) ∧ wx.cell? ⟨w.heap.size, 5, none⟩ = some (.string ref) ∧ wx.cell? ⟨w.heap.size, 6, none⟩ = some (.int .u8 shape) ∧ wx.cell? ⟨w.heap.size, 7, none⟩ = some (.int .i64 warm) ∧ wx.cell? ⟨w.heap.size, 8, none⟩ = some (.int .i64 queue) ∧ wx.cell? ⟨w.heap.size, 9, none⟩ = some (.bool cl) ∧ wx.cell? ⟨w.heap.size, 10, none⟩ = some (.int .i64 id) ∧ wx.cell? ⟨w.heap.size, 11, none⟩ = some (.bool fb) ∧ wx.cell? ⟨w.heap.size + 1, 0, none⟩ = some (.int .i64 pa) ∧ wx.cell? ⟨w.heap.size + 1, 1, none⟩ = some (.int .i64 fl) ∧ wx.cell? ⟨w.heap.size + 1, 2, none⟩ = some (.int .i64 co)) ∧ wx.heap[w.heap.size]? = some (.cells #[.string s0, .string s1, .bool thr, .int .i64 cnt, .int .u8 strat, .string ref, .int .u8 shape, .int .i64 warm, .int .i64 queue, .bool cl, .int .i64 id, .bool fb] 25) ∧ wx.heap[w.heap.size + 1]? = some (.cells #[.int .i64 pa, .int .i64 fl, .int .i64 co] 27) ∧ Below w.heap.size w wx) (((w.alloc (.cells #[.string s0, .string s1, .bool thr, .int .i64 cnt, .int .u8 strat, .string ref, .int .u8 shape, .int .i64 warm, .int .i64 queue, .bool cl, .int .i64 id, .bool fb] 25)).alloc (.cells #[.int .i64 pa, .int .i64 fl, .int .i64 co] 27)).drew) := by
    refine SK.out _ ?_ ?_ ?_
    · show ((w.alloc _).alloc _).heap[w.heap.size]? = _
      rw [Below.heap_alloc _ _ _ (by simp)]
      exact World.alloc_heap_new w _
    · have := World.alloc_heap_new (w.alloc (.cells #[.string s0, .string s1, .bool thr, .int .i64 cnt, .int .u8 strat, .string ref, .int .u8 shape, .int .i64 warm, .int .i64 queue, .bool cl, .int .i64 id, .bool fb] 25)) (.cells #[.int .i64 pa, .int .i64 fl, .int .i64 co] 27)
      rwa [World.size_alloc] at this
    · exact (((Below.refl _ _).alloc (Nat.le_refl _) _).alloc (by simp) _).drew
  have HS0 := Lib.hid S0
  clear S0
  go_region_held3 (fun wx => (wx.cell? ⟨w.heap.size, 0, none⟩ = some (.string s0) ∧ wx.cell? ⟨w.heap.size, 1, none⟩ = some (.string s1) ∧ wx.cell? ⟨w.heap.size, 2, none⟩ = some (.bool thr) ∧ wx.cell? ⟨w.heap.size, 3, none⟩ = some (.int .i64 cnt) ∧ wx.cell? ⟨w.heap.size, 4, none⟩ = some (.int .u8 strat) ∧ wx.cell? ⟨w.heap.size, 5, none⟩ = some (.string ref) ∧ wx.cell? ⟨w.heap.size, 6, none⟩ = some (.int .u8 shape) ∧ wx.cell? ⟨w.heap.size, 7, none⟩ = some (.int .i64 warm) ∧ wx.cell? ⟨w.heap.size, 8, none⟩ = some (.int .i64 queue) ∧ wx.cell? ⟨w.heap.size, 9, none⟩ = some (.bool cl) ∧ wx.cell? ⟨w.heap.size, 10, none⟩ = some (.int .i64 id) ∧ wx.cell? ⟨w.heap.size, 11, none⟩ = some (.bool fb) ∧ wx.cell? ⟨w.heap.size + 1, 0, none⟩ = some (.int .i64 pa) ∧ wx.cell? ⟨w.heap.size + 1, 1, none⟩ = some (.int .i64 fl) ∧ wx.cell? ⟨w.heap.size + 1, 2, none⟩ = some (.int .i64 co)) ∧ wx.heap[w.heap.size]? = some (.cells #[.string s0, .string s1, .bool thr, .int .i64 cnt, .int .u8 strat, .string ref, .int .u8 shape, .int .i64 warm, .int .i64 queue, .bool cl, .int .i64 id, .bool fb] 25) ∧ wx.heap[w.heap.size + 1]? = some (.cells #[.int .i64 pa, .int .i64 fl, .int .i64 co] 27) ∧ Below w.heap.size w wx) (first | exact HS0.out | exact SS.out _ _ (by assumption) (by assumption))
    (first | (go_at_call 8; refine (HL.out _).mono ?_; rintro e wa ⟨rfl, ha⟩)
           | (go_at_call 7; refine (HP.out _).mono ?_; rintro e wb ⟨rfl, hb⟩)
           | (go_at_call 14; refine (HR.out _).mono ?_; rintro e wc ⟨rfl, hc⟩))
  all_goals have hS : (fun wx => (wx.cell? ⟨w.heap.size, 0, none⟩ = some (.string s0) ∧ wx.cell? ⟨w.heap.size, 1, none⟩ = some (.string s1) ∧ wx.cell? ⟨w.heap.size, 2, none⟩ = some (.bool thr) ∧ wx.cell? ⟨w.heap.size, 3, none⟩ = some (.int .i64 cnt) ∧ wx.cell? ⟨w.heap.size, 4, none⟩ = some (.int .u8 strat) ∧ wx.cell? ⟨w.heap.size, 5, none⟩ = some (.string ref) ∧ wx.cell? ⟨w.heap.size, 6, none⟩ = some (.int .u8 shape) ∧ wx.cell? ⟨w.heap.size, 7, none⟩ = some (.int .i64 warm) ∧ wx.cell? ⟨w.heap.size, 8, none⟩ = some (.int .i64 queue) ∧ wx.cell? ⟨w.heap.size, 9, none⟩ = some (.bool cl) ∧ wx.cell? ⟨w.heap.size, 10, none⟩ = some (.int .i64 id) ∧ wx.cell? ⟨w.heap.size, 11, none⟩ = some (.bool fb) ∧ wx.cell? ⟨w.heap.size + 1, 0, none⟩ = some (.int .i64 pa) ∧ wx.cell? ⟨w.heap.size + 1, 1, none⟩ = some (.int .i64 fl) ∧ wx.cell? ⟨w.heap.size + 1, 2, none⟩ = some (.int .i64 co)) ∧ wx.heap[w.heap.size]? = some (.cells #[.string s0, .string s1, .bool thr, .int .i64 cnt, .int .u8 strat, .string ref, .int .u8 shape, .int .i64 warm, .int .i64 queue, .bool cl, .int .i64 id, .bool fb] 25) ∧ wx.heap[w.heap.size + 1]? = some (.cells #[.int .i64 pa, .int .i64 fl, .int .i64 co] 27) ∧ Below w.heap.size w wx) wc := by assumption
  all_goals go_wp2_with (fail)
  all_goals go_ret
  all_goals exact ⟨rfl, hS.2.2.2⟩
end Go.Proofs.Ytalpilahemajoaa
