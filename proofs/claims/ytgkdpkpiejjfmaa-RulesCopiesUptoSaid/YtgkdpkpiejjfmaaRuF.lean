/- rules: the error of a flow rule, whole. -/
import Derived.Test.YtgkdpkpiejjfmaaRuE
namespace Go.Proofs.Ytgkdpkpiejjfmaa
open Go.RowKit
set_option linter.unusedVariables false
set_option linter.unusedSimpArgs false

theorem info_strR : (Try.prog.info? 9).map (fun i => (i.zero, i.size, i.bytes)) = some (some (.string ⟨#[]⟩), 1, 16) := by kernel_rfl
theorem kcell_atR (w : World) (u : Value) (t : TypeId) {b : Nat} (hb : b = w.heap.size) : ∀ j x, ([u] : List Value)[j]? = some x → (w.alloc (.cells #[u] t)).cell? ((⟨b, 0, none⟩ : Addr).add j) = some x := by
  subst hb
  intro j x h
  match j with
  | 0 => simp at h; subst h; simp [Addr.add, go_sem]
  | j + 1 => simp at h
theorem own_two {w : World} {base : Nat} {v : Value} {s t : ByteArray} (h : w.ownsRow base 9 1 v 2 ([.string s] ++ [.string t])) : ∃ a cap, v = .slice a 2 cap ∧ TextsAt w a [s, t] := by
  obtain ⟨h1, h2⟩ := h
  rcases h2 with ⟨_, h2⟩ | ⟨g, cap, cur, rfl, hb, hg, hnc, hcm, hcs, htake⟩
  · omega
  · have hc := World.ownsRow.cells (w := w) (base := base) (e := 9) (size := 1) (n := 2) (xs := [.string s] ++ [.string t]) ⟨h1, Or.inr ⟨g, cap, cur, rfl, hb, hg, hnc, hcm, hcs, htake⟩⟩ (g := g) rfl
    have r0 := hc 0 (.string s) rfl
    have r1 := hc 1 (.string t) rfl
    rw [WideShapes.add_plain] at r0 r1
    refine ⟨_, cap, rfl, Or.inr ⟨g, 0, rfl, (Array.getElem?_eq_some_iff.1 hg).1, fun j hj => ?_⟩⟩
    match j, hj with
    | 0, _ => exact r0
    | 1, _ => exact r1

set_option maxHeartbeats 12800000 in
set_option maxRecDepth 100000 in
theorem flow_two (f : FlowS) (z0 : f.res.size ≤ maxLen) (z1 : f.org.size ≤ maxLen) (z2 : f.ref.size ≤ maxLen) (hst : f.strat = 1 ∨ f.strat = 2) (w : World) :
    Calls Try.prog 17 #[f.v] w fun e w' => e = .returned (.int .i64 (flowE f)) ∧ Below w.heap.size w w' := by
  obtain ⟨i0, hi, hz0, hz1, hz2⟩ := info_parts info_strR
  unfold FlowS.v FlowS.cells
  obtain ⟨res, org, thr, cnt, strat, ref, shape, warm, queue, cl, id, fb⟩ := f
  dsimp only at *
  rcases hst with rfl | rfl
  · by_cases s0 : shape = 0
    · subst s0
      have hE : flowE ⟨res, org, thr, cnt, 1, ref, 0, warm, queue, cl, id, fb⟩ = lookE (namedB res [org, ref]) (mustL ⟨res, org, thr, cnt, 1, ref, 0, warm, queue, cl, id, fb⟩ 0 false false) 30 := by
        have e0 : namesF ⟨res, org, thr, cnt, 1, ref, 0, warm, queue, cl, id, fb⟩ = [org, ref] := rfl
        have e1 : leastF ⟨res, org, thr, cnt, 1, ref, 0, warm, queue, cl, id, fb⟩ = 0 := by rfl
        have e2 : warmF ⟨res, org, thr, cnt, 1, ref, 0, warm, queue, cl, id, fb⟩ = false := by rfl
        have e3 : pacedF ⟨res, org, thr, cnt, 1, ref, 0, warm, queue, cl, id, fb⟩ = false := by rfl
        rw [flowE, e0, e1, e2, e3]
      have HE := Lib.hid hE
      clear hE
      have hown1 : ((w.alloc (boxC ⟨res, org, thr, cnt, 1, ref, 0, warm, queue, cl, id, fb⟩)).alloc (.cells #[.string org] 9)).ownsRow (w.heap.size + 1) 9 1 (.slice (some ⟨w.heap.size + 1, 0, none⟩) 1 1) 1 [.string org] := by
        have := World.ownsRow_lit (base := w.heap.size + 1) (size := 1) (e := 9) (w.alloc (boxC ⟨res, org, thr, cnt, 1, ref, 0, warm, queue, cl, id, fb⟩)) #[.string org] 1 (by simp) (by decide) rfl
        simpa using this
      have HF := Lib.hid (((flow_boxed w ⟨res, org, thr, cnt, 1, ref, 0, warm, queue, cl, id, fb⟩).below ((Below.refl _ _).alloc (Nat.le_refl _) (.cells #[.string org] 9))).below ((Below.refl _ _).alloc (Nat.le_refl _) (.cells #[.string ref] 9)))
      have HB : Hid (Below w.heap.size w (((w.alloc (boxC ⟨res, org, thr, cnt, 1, ref, 0, warm, queue, cl, id, fb⟩)).alloc (.cells #[.string org] 9)).alloc (.cells #[.string ref] 9))) := (((Below.refl _ _).alloc (Nat.le_refl _) _).alloc (by simp) _).alloc (by simp; omega) _
      go_enter Try.func17, Try.ntmps17
      go_wp2_with (at_builtin; refine wpList_append_own _ (by rfl) (.tmp 18) (.tmp 21) 36 (by rfl) (w.heap.size + 1) 9 i0 (.string ⟨#[]⟩) 1 16 Try.underlying36 hi hz0 hz1 hz2 rfl (by decide) (.slice (some ⟨w.heap.size + 1, 0, none⟩) 1 1) 1 [.string org] (by rfl) (hown1.alloc (.cells #[.string ref] 9)) ⟨w.heap.size + 1 + 1, 0, none⟩ 1 1 [.string ref] (by rfl) rfl (kcell_atR _ _ 9 (by simp)) (by simp [Value.oneCell']) (by unfold maxLen; omega) (by omega) (by simp only [World.size_alloc]; omega) ?_; (
          intro v4 w4 hown4 hg4 _
          obtain ⟨a4, c4, rfl, ht4⟩ := own_two hown4
          have hz4 : w.heap.size + 3 ≤ w4.heap.size := by have := hg4.size; simp only [World.size_alloc] at this; omega
          have hfb := HF.out.of_block (hg4.block w.heap.size (by simp only [World.size_alloc]; omega) (by simp [Value.ownBlock]))
          have q6 := hfb.c6
          have q1 := fun o => (hfb.below ((Below.refl _ _).alloc (Nat.le_refl _) o)).c6
          have q2 := fun o o' => ((hfb.below ((Below.refl _ _).alloc (Nat.le_refl _) o)).below ((Below.refl _ _).alloc (Nat.le_refl _) o')).c6
          have q3 := fun o o' o'' => (((hfb.below ((Below.refl _ _).alloc (Nat.le_refl _) o)).below ((Below.refl _ _).alloc (Nat.le_refl _) o')).below ((Below.refl _ _).alloc (Nat.le_refl _) o'')).c6
          have q0 := fun o o' o'' => (((hfb.below ((Below.refl _ _).alloc (Nat.le_refl _) o)).below ((Below.refl _ _).alloc (Nat.le_refl _) o')).below ((Below.refl _ _).alloc (Nat.le_refl _) o'')).c0
          have HB4 : Hid (Below w.heap.size w w4) := HB.out.grown hg4 (by simp only [World.size_alloc]; omega) (fun k e => by
            have : w.heap.size + 1 = k := by simpa [Value.ownBlock] using e
            omega)
          have HFB := Lib.hid hfb
          obtain ⟨d, hd⟩ : ∃ d, w4.heap.size = w.heap.size + d + 3 := ⟨w4.heap.size - w.heap.size - 3, by omega⟩
          have HT4 := Lib.hid ht4
          clear hown4 hg4 hfb ht4 hown1 HF HB hz4))
      go_wp2_with (fail)
      refine (flow_tail (w4 := w4) ⟨res, org, thr, cnt, 1, ref, 0, warm, queue, cl, id, fb⟩ z0 w.heap.size (w.heap.size + d + 3) hd 0 false false a4 2 c4 [org, ref] rfl (by omega) HT4.out (by intro s hs; simp at hs; rcases hs with rfl | rfl; exact z1; exact z2) HFB.out).mono ?_
      rintro e w' ⟨rfl, h⟩
      go_wp2_with (fail)
      go_ret
      exact ⟨by rw [HE.out]; rfl, HB4.out.trans (h.mono (by omega))⟩
    by_cases s1 : shape = 1
    · subst s1
      have hE : flowE ⟨res, org, thr, cnt, 1, ref, 1, warm, queue, cl, id, fb⟩ = lookE (namedB res [org, ref]) (mustL ⟨res, org, thr, cnt, 1, ref, 1, warm, queue, cl, id, fb⟩ 1 true false) 30 := by
        have e0 : namesF ⟨res, org, thr, cnt, 1, ref, 1, warm, queue, cl, id, fb⟩ = [org, ref] := rfl
        have e1 : leastF ⟨res, org, thr, cnt, 1, ref, 1, warm, queue, cl, id, fb⟩ = 1 := by rfl
        have e2 : warmF ⟨res, org, thr, cnt, 1, ref, 1, warm, queue, cl, id, fb⟩ = true := by rfl
        have e3 : pacedF ⟨res, org, thr, cnt, 1, ref, 1, warm, queue, cl, id, fb⟩ = false := by rfl
        rw [flowE, e0, e1, e2, e3]
      have HE := Lib.hid hE
      clear hE
      have hown1 : ((w.alloc (boxC ⟨res, org, thr, cnt, 1, ref, 1, warm, queue, cl, id, fb⟩)).alloc (.cells #[.string org] 9)).ownsRow (w.heap.size + 1) 9 1 (.slice (some ⟨w.heap.size + 1, 0, none⟩) 1 1) 1 [.string org] := by
        have := World.ownsRow_lit (base := w.heap.size + 1) (size := 1) (e := 9) (w.alloc (boxC ⟨res, org, thr, cnt, 1, ref, 1, warm, queue, cl, id, fb⟩)) #[.string org] 1 (by simp) (by decide) rfl
        simpa using this
      have HF := Lib.hid (((flow_boxed w ⟨res, org, thr, cnt, 1, ref, 1, warm, queue, cl, id, fb⟩).below ((Below.refl _ _).alloc (Nat.le_refl _) (.cells #[.string org] 9))).below ((Below.refl _ _).alloc (Nat.le_refl _) (.cells #[.string ref] 9)))
      have HB : Hid (Below w.heap.size w (((w.alloc (boxC ⟨res, org, thr, cnt, 1, ref, 1, warm, queue, cl, id, fb⟩)).alloc (.cells #[.string org] 9)).alloc (.cells #[.string ref] 9))) := (((Below.refl _ _).alloc (Nat.le_refl _) _).alloc (by simp) _).alloc (by simp; omega) _
      go_enter Try.func17, Try.ntmps17
      go_wp2_with (at_builtin; refine wpList_append_own _ (by rfl) (.tmp 18) (.tmp 21) 36 (by rfl) (w.heap.size + 1) 9 i0 (.string ⟨#[]⟩) 1 16 Try.underlying36 hi hz0 hz1 hz2 rfl (by decide) (.slice (some ⟨w.heap.size + 1, 0, none⟩) 1 1) 1 [.string org] (by rfl) (hown1.alloc (.cells #[.string ref] 9)) ⟨w.heap.size + 1 + 1, 0, none⟩ 1 1 [.string ref] (by rfl) rfl (kcell_atR _ _ 9 (by simp)) (by simp [Value.oneCell']) (by unfold maxLen; omega) (by omega) (by simp only [World.size_alloc]; omega) ?_; (
          intro v4 w4 hown4 hg4 _
          obtain ⟨a4, c4, rfl, ht4⟩ := own_two hown4
          have hz4 : w.heap.size + 3 ≤ w4.heap.size := by have := hg4.size; simp only [World.size_alloc] at this; omega
          have hfb := HF.out.of_block (hg4.block w.heap.size (by simp only [World.size_alloc]; omega) (by simp [Value.ownBlock]))
          have q6 := hfb.c6
          have q1 := fun o => (hfb.below ((Below.refl _ _).alloc (Nat.le_refl _) o)).c6
          have q2 := fun o o' => ((hfb.below ((Below.refl _ _).alloc (Nat.le_refl _) o)).below ((Below.refl _ _).alloc (Nat.le_refl _) o')).c6
          have q3 := fun o o' o'' => (((hfb.below ((Below.refl _ _).alloc (Nat.le_refl _) o)).below ((Below.refl _ _).alloc (Nat.le_refl _) o')).below ((Below.refl _ _).alloc (Nat.le_refl _) o'')).c6
          have q0 := fun o o' o'' => (((hfb.below ((Below.refl _ _).alloc (Nat.le_refl _) o)).below ((Below.refl _ _).alloc (Nat.le_refl _) o')).below ((Below.refl _ _).alloc (Nat.le_refl _) o'')).c0
          have HB4 : Hid (Below w.heap.size w w4) := HB.out.grown hg4 (by simp only [World.size_alloc]; omega) (fun k e => by
            have : w.heap.size + 1 = k := by simpa [Value.ownBlock] using e
            omega)
          have HFB := Lib.hid hfb
          obtain ⟨d, hd⟩ : ∃ d, w4.heap.size = w.heap.size + d + 3 := ⟨w4.heap.size - w.heap.size - 3, by omega⟩
          have HT4 := Lib.hid ht4
          clear hown4 hg4 hfb ht4 hown1 HF HB hz4))
      go_wp2_with (fail)
      refine (flow_tail (w4 := w4) ⟨res, org, thr, cnt, 1, ref, 1, warm, queue, cl, id, fb⟩ z0 w.heap.size (w.heap.size + d + 3) hd 1 true false a4 2 c4 [org, ref] rfl (by omega) HT4.out (by intro s hs; simp at hs; rcases hs with rfl | rfl; exact z1; exact z2) HFB.out).mono ?_
      rintro e w' ⟨rfl, h⟩
      go_wp2_with (fail)
      go_ret
      exact ⟨by rw [HE.out]; rfl, HB4.out.trans (h.mono (by omega))⟩
    by_cases s2 : shape = 2
    · subst s2
      have hE : flowE ⟨res, org, thr, cnt, 1, ref, 2, warm, queue, cl, id, fb⟩ = lookE (namedB res [org, ref]) (mustL ⟨res, org, thr, cnt, 1, ref, 2, warm, queue, cl, id, fb⟩ 1 false true) 30 := by
        have e0 : namesF ⟨res, org, thr, cnt, 1, ref, 2, warm, queue, cl, id, fb⟩ = [org, ref] := rfl
        have e1 : leastF ⟨res, org, thr, cnt, 1, ref, 2, warm, queue, cl, id, fb⟩ = 1 := by rfl
        have e2 : warmF ⟨res, org, thr, cnt, 1, ref, 2, warm, queue, cl, id, fb⟩ = false := by rfl
        have e3 : pacedF ⟨res, org, thr, cnt, 1, ref, 2, warm, queue, cl, id, fb⟩ = true := by rfl
        rw [flowE, e0, e1, e2, e3]
      have HE := Lib.hid hE
      clear hE
      have hown1 : ((w.alloc (boxC ⟨res, org, thr, cnt, 1, ref, 2, warm, queue, cl, id, fb⟩)).alloc (.cells #[.string org] 9)).ownsRow (w.heap.size + 1) 9 1 (.slice (some ⟨w.heap.size + 1, 0, none⟩) 1 1) 1 [.string org] := by
        have := World.ownsRow_lit (base := w.heap.size + 1) (size := 1) (e := 9) (w.alloc (boxC ⟨res, org, thr, cnt, 1, ref, 2, warm, queue, cl, id, fb⟩)) #[.string org] 1 (by simp) (by decide) rfl
        simpa using this
      have HF := Lib.hid (((flow_boxed w ⟨res, org, thr, cnt, 1, ref, 2, warm, queue, cl, id, fb⟩).below ((Below.refl _ _).alloc (Nat.le_refl _) (.cells #[.string org] 9))).below ((Below.refl _ _).alloc (Nat.le_refl _) (.cells #[.string ref] 9)))
      have HB : Hid (Below w.heap.size w (((w.alloc (boxC ⟨res, org, thr, cnt, 1, ref, 2, warm, queue, cl, id, fb⟩)).alloc (.cells #[.string org] 9)).alloc (.cells #[.string ref] 9))) := (((Below.refl _ _).alloc (Nat.le_refl _) _).alloc (by simp) _).alloc (by simp; omega) _
      go_enter Try.func17, Try.ntmps17
      go_wp2_with (at_builtin; refine wpList_append_own _ (by rfl) (.tmp 18) (.tmp 21) 36 (by rfl) (w.heap.size + 1) 9 i0 (.string ⟨#[]⟩) 1 16 Try.underlying36 hi hz0 hz1 hz2 rfl (by decide) (.slice (some ⟨w.heap.size + 1, 0, none⟩) 1 1) 1 [.string org] (by rfl) (hown1.alloc (.cells #[.string ref] 9)) ⟨w.heap.size + 1 + 1, 0, none⟩ 1 1 [.string ref] (by rfl) rfl (kcell_atR _ _ 9 (by simp)) (by simp [Value.oneCell']) (by unfold maxLen; omega) (by omega) (by simp only [World.size_alloc]; omega) ?_; (
          intro v4 w4 hown4 hg4 _
          obtain ⟨a4, c4, rfl, ht4⟩ := own_two hown4
          have hz4 : w.heap.size + 3 ≤ w4.heap.size := by have := hg4.size; simp only [World.size_alloc] at this; omega
          have hfb := HF.out.of_block (hg4.block w.heap.size (by simp only [World.size_alloc]; omega) (by simp [Value.ownBlock]))
          have q6 := hfb.c6
          have q1 := fun o => (hfb.below ((Below.refl _ _).alloc (Nat.le_refl _) o)).c6
          have q2 := fun o o' => ((hfb.below ((Below.refl _ _).alloc (Nat.le_refl _) o)).below ((Below.refl _ _).alloc (Nat.le_refl _) o')).c6
          have q3 := fun o o' o'' => (((hfb.below ((Below.refl _ _).alloc (Nat.le_refl _) o)).below ((Below.refl _ _).alloc (Nat.le_refl _) o')).below ((Below.refl _ _).alloc (Nat.le_refl _) o'')).c6
          have q0 := fun o o' o'' => (((hfb.below ((Below.refl _ _).alloc (Nat.le_refl _) o)).below ((Below.refl _ _).alloc (Nat.le_refl _) o')).below ((Below.refl _ _).alloc (Nat.le_refl _) o'')).c0
          have HB4 : Hid (Below w.heap.size w w4) := HB.out.grown hg4 (by simp only [World.size_alloc]; omega) (fun k e => by
            have : w.heap.size + 1 = k := by simpa [Value.ownBlock] using e
            omega)
          have HFB := Lib.hid hfb
          obtain ⟨d, hd⟩ : ∃ d, w4.heap.size = w.heap.size + d + 3 := ⟨w4.heap.size - w.heap.size - 3, by omega⟩
          have HT4 := Lib.hid ht4
          clear hown4 hg4 hfb ht4 hown1 HF HB hz4))
      go_wp2_with (fail)
      refine (flow_tail (w4 := w4) ⟨res, org, thr, cnt, 1, ref, 2, warm, queue, cl, id, fb⟩ z0 w.heap.size (w.heap.size + d + 3) hd 1 false true a4 2 c4 [org, ref] rfl (by omega) HT4.out (by intro s hs; simp at hs; rcases hs with rfl | rfl; exact z1; exact z2) HFB.out).mono ?_
      rintro e w' ⟨rfl, h⟩
      go_wp2_with (fail)
      go_ret
      exact ⟨by rw [HE.out]; rfl, HB4.out.trans (h.mono (by omega))⟩
    by_cases s3 : shape = 3
    · subst s3
      have hE : flowE ⟨res, org, thr, cnt, 1, ref, 3, warm, queue, cl, id, fb⟩ = lookE (namedB res [org, ref]) (mustL ⟨res, org, thr, cnt, 1, ref, 3, warm, queue, cl, id, fb⟩ 1 true true) 30 := by
        have e0 : namesF ⟨res, org, thr, cnt, 1, ref, 3, warm, queue, cl, id, fb⟩ = [org, ref] := rfl
        have e1 : leastF ⟨res, org, thr, cnt, 1, ref, 3, warm, queue, cl, id, fb⟩ = 1 := by rfl
        have e2 : warmF ⟨res, org, thr, cnt, 1, ref, 3, warm, queue, cl, id, fb⟩ = true := by rfl
        have e3 : pacedF ⟨res, org, thr, cnt, 1, ref, 3, warm, queue, cl, id, fb⟩ = true := by rfl
        rw [flowE, e0, e1, e2, e3]
      have HE := Lib.hid hE
      clear hE
      have hown1 : ((w.alloc (boxC ⟨res, org, thr, cnt, 1, ref, 3, warm, queue, cl, id, fb⟩)).alloc (.cells #[.string org] 9)).ownsRow (w.heap.size + 1) 9 1 (.slice (some ⟨w.heap.size + 1, 0, none⟩) 1 1) 1 [.string org] := by
        have := World.ownsRow_lit (base := w.heap.size + 1) (size := 1) (e := 9) (w.alloc (boxC ⟨res, org, thr, cnt, 1, ref, 3, warm, queue, cl, id, fb⟩)) #[.string org] 1 (by simp) (by decide) rfl
        simpa using this
      have HF := Lib.hid (((flow_boxed w ⟨res, org, thr, cnt, 1, ref, 3, warm, queue, cl, id, fb⟩).below ((Below.refl _ _).alloc (Nat.le_refl _) (.cells #[.string org] 9))).below ((Below.refl _ _).alloc (Nat.le_refl _) (.cells #[.string ref] 9)))
      have HB : Hid (Below w.heap.size w (((w.alloc (boxC ⟨res, org, thr, cnt, 1, ref, 3, warm, queue, cl, id, fb⟩)).alloc (.cells #[.string org] 9)).alloc (.cells #[.string ref] 9))) := (((Below.refl _ _).alloc (Nat.le_refl _) _).alloc (by simp) _).alloc (by simp; omega) _
      go_enter Try.func17, Try.ntmps17
      go_wp2_with (at_builtin; refine wpList_append_own _ (by rfl) (.tmp 18) (.tmp 21) 36 (by rfl) (w.heap.size + 1) 9 i0 (.string ⟨#[]⟩) 1 16 Try.underlying36 hi hz0 hz1 hz2 rfl (by decide) (.slice (some ⟨w.heap.size + 1, 0, none⟩) 1 1) 1 [.string org] (by rfl) (hown1.alloc (.cells #[.string ref] 9)) ⟨w.heap.size + 1 + 1, 0, none⟩ 1 1 [.string ref] (by rfl) rfl (kcell_atR _ _ 9 (by simp)) (by simp [Value.oneCell']) (by unfold maxLen; omega) (by omega) (by simp only [World.size_alloc]; omega) ?_; (
          intro v4 w4 hown4 hg4 _
          obtain ⟨a4, c4, rfl, ht4⟩ := own_two hown4
          have hz4 : w.heap.size + 3 ≤ w4.heap.size := by have := hg4.size; simp only [World.size_alloc] at this; omega
          have hfb := HF.out.of_block (hg4.block w.heap.size (by simp only [World.size_alloc]; omega) (by simp [Value.ownBlock]))
          have q6 := hfb.c6
          have q1 := fun o => (hfb.below ((Below.refl _ _).alloc (Nat.le_refl _) o)).c6
          have q2 := fun o o' => ((hfb.below ((Below.refl _ _).alloc (Nat.le_refl _) o)).below ((Below.refl _ _).alloc (Nat.le_refl _) o')).c6
          have q3 := fun o o' o'' => (((hfb.below ((Below.refl _ _).alloc (Nat.le_refl _) o)).below ((Below.refl _ _).alloc (Nat.le_refl _) o')).below ((Below.refl _ _).alloc (Nat.le_refl _) o'')).c6
          have q0 := fun o o' o'' => (((hfb.below ((Below.refl _ _).alloc (Nat.le_refl _) o)).below ((Below.refl _ _).alloc (Nat.le_refl _) o')).below ((Below.refl _ _).alloc (Nat.le_refl _) o'')).c0
          have HB4 : Hid (Below w.heap.size w w4) := HB.out.grown hg4 (by simp only [World.size_alloc]; omega) (fun k e => by
            have : w.heap.size + 1 = k := by simpa [Value.ownBlock] using e
            omega)
          have HFB := Lib.hid hfb
          obtain ⟨d, hd⟩ : ∃ d, w4.heap.size = w.heap.size + d + 3 := ⟨w4.heap.size - w.heap.size - 3, by omega⟩
          have HT4 := Lib.hid ht4
          clear hown4 hg4 hfb ht4 hown1 HF HB hz4))
      go_wp2_with (fail)
      refine (flow_tail (w4 := w4) ⟨res, org, thr, cnt, 1, ref, 3, warm, queue, cl, id, fb⟩ z0 w.heap.size (w.heap.size + d + 3) hd 1 true true a4 2 c4 [org, ref] rfl (by omega) HT4.out (by intro s hs; simp at hs; rcases hs with rfl | rfl; exact z1; exact z2) HFB.out).mono ?_
      rintro e w' ⟨rfl, h⟩
      go_wp2_with (fail)
      go_ret
      exact ⟨by rw [HE.out]; rfl, HB4.out.trans (h.mono (by omega))⟩
    · have t0 : (shape == 0) = false := by simpa using s0
      have t1' : (shape == 1) = false := by simpa using s1
      have t2' : (shape == 2) = false := by simpa using s2
      have t3' : (shape == 3) = false := by simpa using s3
      have hE : flowE ⟨res, org, thr, cnt, 1, ref, shape, warm, queue, cl, id, fb⟩ = lookE (namedB res [org, ref]) (mustL ⟨res, org, thr, cnt, 1, ref, shape, warm, queue, cl, id, fb⟩ 1 false false) 30 := by
        have e0 : namesF ⟨res, org, thr, cnt, 1, ref, shape, warm, queue, cl, id, fb⟩ = [org, ref] := rfl
        have e1 : leastF ⟨res, org, thr, cnt, 1, ref, shape, warm, queue, cl, id, fb⟩ = 1 := by simp [leastF, s0]
        have e2 : warmF ⟨res, org, thr, cnt, 1, ref, shape, warm, queue, cl, id, fb⟩ = false := by simp [warmF, s1, s3]
        have e3 : pacedF ⟨res, org, thr, cnt, 1, ref, shape, warm, queue, cl, id, fb⟩ = false := by simp [pacedF, s2, s3]
        rw [flowE, e0, e1, e2, e3]
      have HE := Lib.hid hE
      clear hE s0 s1 s2 s3
      have hown1 : ((w.alloc (boxC ⟨res, org, thr, cnt, 1, ref, shape, warm, queue, cl, id, fb⟩)).alloc (.cells #[.string org] 9)).ownsRow (w.heap.size + 1) 9 1 (.slice (some ⟨w.heap.size + 1, 0, none⟩) 1 1) 1 [.string org] := by
        have := World.ownsRow_lit (base := w.heap.size + 1) (size := 1) (e := 9) (w.alloc (boxC ⟨res, org, thr, cnt, 1, ref, shape, warm, queue, cl, id, fb⟩)) #[.string org] 1 (by simp) (by decide) rfl
        simpa using this
      have HF := Lib.hid (((flow_boxed w ⟨res, org, thr, cnt, 1, ref, shape, warm, queue, cl, id, fb⟩).below ((Below.refl _ _).alloc (Nat.le_refl _) (.cells #[.string org] 9))).below ((Below.refl _ _).alloc (Nat.le_refl _) (.cells #[.string ref] 9)))
      have HB : Hid (Below w.heap.size w (((w.alloc (boxC ⟨res, org, thr, cnt, 1, ref, shape, warm, queue, cl, id, fb⟩)).alloc (.cells #[.string org] 9)).alloc (.cells #[.string ref] 9))) := (((Below.refl _ _).alloc (Nat.le_refl _) _).alloc (by simp) _).alloc (by simp; omega) _
      go_enter Try.func17, Try.ntmps17
      go_wp2_with (at_builtin; refine wpList_append_own _ (by rfl) (.tmp 18) (.tmp 21) 36 (by rfl) (w.heap.size + 1) 9 i0 (.string ⟨#[]⟩) 1 16 Try.underlying36 hi hz0 hz1 hz2 rfl (by decide) (.slice (some ⟨w.heap.size + 1, 0, none⟩) 1 1) 1 [.string org] (by rfl) (hown1.alloc (.cells #[.string ref] 9)) ⟨w.heap.size + 1 + 1, 0, none⟩ 1 1 [.string ref] (by rfl) rfl (kcell_atR _ _ 9 (by simp)) (by simp [Value.oneCell']) (by unfold maxLen; omega) (by omega) (by simp only [World.size_alloc]; omega) ?_; (
          intro v4 w4 hown4 hg4 _
          obtain ⟨a4, c4, rfl, ht4⟩ := own_two hown4
          have hz4 : w.heap.size + 3 ≤ w4.heap.size := by have := hg4.size; simp only [World.size_alloc] at this; omega
          have hfb := HF.out.of_block (hg4.block w.heap.size (by simp only [World.size_alloc]; omega) (by simp [Value.ownBlock]))
          have q6 := hfb.c6
          have q1 := fun o => (hfb.below ((Below.refl _ _).alloc (Nat.le_refl _) o)).c6
          have q2 := fun o o' => ((hfb.below ((Below.refl _ _).alloc (Nat.le_refl _) o)).below ((Below.refl _ _).alloc (Nat.le_refl _) o')).c6
          have q3 := fun o o' o'' => (((hfb.below ((Below.refl _ _).alloc (Nat.le_refl _) o)).below ((Below.refl _ _).alloc (Nat.le_refl _) o')).below ((Below.refl _ _).alloc (Nat.le_refl _) o'')).c6
          have q0 := fun o o' o'' => (((hfb.below ((Below.refl _ _).alloc (Nat.le_refl _) o)).below ((Below.refl _ _).alloc (Nat.le_refl _) o')).below ((Below.refl _ _).alloc (Nat.le_refl _) o'')).c0
          have HB4 : Hid (Below w.heap.size w w4) := HB.out.grown hg4 (by simp only [World.size_alloc]; omega) (fun k e => by
            have : w.heap.size + 1 = k := by simpa [Value.ownBlock] using e
            omega)
          have HFB := Lib.hid hfb
          obtain ⟨d, hd⟩ : ∃ d, w4.heap.size = w.heap.size + d + 3 := ⟨w4.heap.size - w.heap.size - 3, by omega⟩
          have HT4 := Lib.hid ht4
          clear hown4 hg4 hfb ht4 hown1 HF HB hz4))
      go_wp2_with (fail)
      refine (flow_tail (w4 := w4) ⟨res, org, thr, cnt, 1, ref, shape, warm, queue, cl, id, fb⟩ z0 w.heap.size (w.heap.size + d + 3) hd 1 false false a4 2 c4 [org, ref] rfl (by omega) HT4.out (by intro s hs; simp at hs; rcases hs with rfl | rfl; exact z1; exact z2) HFB.out).mono ?_
      rintro e w' ⟨rfl, h⟩
      go_wp2_with (fail)
      go_ret
      exact ⟨by rw [HE.out]; rfl, HB4.out.trans (h.mono (by omega))⟩
  · by_cases s0 : shape = 0
    · subst s0
      have hE : flowE ⟨res, org, thr, cnt, 2, ref, 0, warm, queue, cl, id, fb⟩ = lookE (namedB res [org, ref]) (mustL ⟨res, org, thr, cnt, 2, ref, 0, warm, queue, cl, id, fb⟩ 0 false false) 30 := by
        have e0 : namesF ⟨res, org, thr, cnt, 2, ref, 0, warm, queue, cl, id, fb⟩ = [org, ref] := rfl
        have e1 : leastF ⟨res, org, thr, cnt, 2, ref, 0, warm, queue, cl, id, fb⟩ = 0 := by rfl
        have e2 : warmF ⟨res, org, thr, cnt, 2, ref, 0, warm, queue, cl, id, fb⟩ = false := by rfl
        have e3 : pacedF ⟨res, org, thr, cnt, 2, ref, 0, warm, queue, cl, id, fb⟩ = false := by rfl
        rw [flowE, e0, e1, e2, e3]
      have HE := Lib.hid hE
      clear hE
      have hown1 : ((w.alloc (boxC ⟨res, org, thr, cnt, 2, ref, 0, warm, queue, cl, id, fb⟩)).alloc (.cells #[.string org] 9)).ownsRow (w.heap.size + 1) 9 1 (.slice (some ⟨w.heap.size + 1, 0, none⟩) 1 1) 1 [.string org] := by
        have := World.ownsRow_lit (base := w.heap.size + 1) (size := 1) (e := 9) (w.alloc (boxC ⟨res, org, thr, cnt, 2, ref, 0, warm, queue, cl, id, fb⟩)) #[.string org] 1 (by simp) (by decide) rfl
        simpa using this
      have HF := Lib.hid (((flow_boxed w ⟨res, org, thr, cnt, 2, ref, 0, warm, queue, cl, id, fb⟩).below ((Below.refl _ _).alloc (Nat.le_refl _) (.cells #[.string org] 9))).below ((Below.refl _ _).alloc (Nat.le_refl _) (.cells #[.string ref] 9)))
      have HB : Hid (Below w.heap.size w (((w.alloc (boxC ⟨res, org, thr, cnt, 2, ref, 0, warm, queue, cl, id, fb⟩)).alloc (.cells #[.string org] 9)).alloc (.cells #[.string ref] 9))) := (((Below.refl _ _).alloc (Nat.le_refl _) _).alloc (by simp) _).alloc (by simp; omega) _
      go_enter Try.func17, Try.ntmps17
      go_wp2_with (at_builtin; refine wpList_append_own _ (by rfl) (.tmp 18) (.tmp 21) 36 (by rfl) (w.heap.size + 1) 9 i0 (.string ⟨#[]⟩) 1 16 Try.underlying36 hi hz0 hz1 hz2 rfl (by decide) (.slice (some ⟨w.heap.size + 1, 0, none⟩) 1 1) 1 [.string org] (by rfl) (hown1.alloc (.cells #[.string ref] 9)) ⟨w.heap.size + 1 + 1, 0, none⟩ 1 1 [.string ref] (by rfl) rfl (kcell_atR _ _ 9 (by simp)) (by simp [Value.oneCell']) (by unfold maxLen; omega) (by omega) (by simp only [World.size_alloc]; omega) ?_; (
          intro v4 w4 hown4 hg4 _
          obtain ⟨a4, c4, rfl, ht4⟩ := own_two hown4
          have hz4 : w.heap.size + 3 ≤ w4.heap.size := by have := hg4.size; simp only [World.size_alloc] at this; omega
          have hfb := HF.out.of_block (hg4.block w.heap.size (by simp only [World.size_alloc]; omega) (by simp [Value.ownBlock]))
          have q6 := hfb.c6
          have q1 := fun o => (hfb.below ((Below.refl _ _).alloc (Nat.le_refl _) o)).c6
          have q2 := fun o o' => ((hfb.below ((Below.refl _ _).alloc (Nat.le_refl _) o)).below ((Below.refl _ _).alloc (Nat.le_refl _) o')).c6
          have q3 := fun o o' o'' => (((hfb.below ((Below.refl _ _).alloc (Nat.le_refl _) o)).below ((Below.refl _ _).alloc (Nat.le_refl _) o')).below ((Below.refl _ _).alloc (Nat.le_refl _) o'')).c6
          have q0 := fun o o' o'' => (((hfb.below ((Below.refl _ _).alloc (Nat.le_refl _) o)).below ((Below.refl _ _).alloc (Nat.le_refl _) o')).below ((Below.refl _ _).alloc (Nat.le_refl _) o'')).c0
          have HB4 : Hid (Below w.heap.size w w4) := HB.out.grown hg4 (by simp only [World.size_alloc]; omega) (fun k e => by
            have : w.heap.size + 1 = k := by simpa [Value.ownBlock] using e
            omega)
          have HFB := Lib.hid hfb
          obtain ⟨d, hd⟩ : ∃ d, w4.heap.size = w.heap.size + d + 3 := ⟨w4.heap.size - w.heap.size - 3, by omega⟩
          have HT4 := Lib.hid ht4
          clear hown4 hg4 hfb ht4 hown1 HF HB hz4))
      go_wp2_with (fail)
      refine (flow_tail (w4 := w4) ⟨res, org, thr, cnt, 2, ref, 0, warm, queue, cl, id, fb⟩ z0 w.heap.size (w.heap.size + d + 3) hd 0 false false a4 2 c4 [org, ref] rfl (by omega) HT4.out (by intro s hs; simp at hs; rcases hs with rfl | rfl; exact z1; exact z2) HFB.out).mono ?_
      rintro e w' ⟨rfl, h⟩
      go_wp2_with (fail)
      go_ret
      exact ⟨by rw [HE.out]; rfl, HB4.out.trans (h.mono (by omega))⟩
    by_cases s1 : shape = 1
    · subst s1
      have hE : flowE ⟨res, org, thr, cnt, 2, ref, 1, warm, queue, cl, id, fb⟩ = lookE (namedB res [org, ref]) (mustL ⟨res, org, thr, cnt, 2, ref, 1, warm, queue, cl, id, fb⟩ 1 true false) 30 := by
        have e0 : namesF ⟨res, org, thr, cnt, 2, ref, 1, warm, queue, cl, id, fb⟩ = [org, ref] := rfl
        have e1 : leastF ⟨res, org, thr, cnt, 2, ref, 1, warm, queue, cl, id, fb⟩ = 1 := by rfl
        have e2 : warmF ⟨res, org, thr, cnt, 2, ref, 1, warm, queue, cl, id, fb⟩ = true := by rfl
        have e3 : pacedF ⟨res, org, thr, cnt, 2, ref, 1, warm, queue, cl, id, fb⟩ = false := by rfl
        rw [flowE, e0, e1, e2, e3]
      have HE := Lib.hid hE
      clear hE
      have hown1 : ((w.alloc (boxC ⟨res, org, thr, cnt, 2, ref, 1, warm, queue, cl, id, fb⟩)).alloc (.cells #[.string org] 9)).ownsRow (w.heap.size + 1) 9 1 (.slice (some ⟨w.heap.size + 1, 0, none⟩) 1 1) 1 [.string org] := by
        have := World.ownsRow_lit (base := w.heap.size + 1) (size := 1) (e := 9) (w.alloc (boxC ⟨res, org, thr, cnt, 2, ref, 1, warm, queue, cl, id, fb⟩)) #[.string org] 1 (by simp) (by decide) rfl
        simpa using this
      have HF := Lib.hid (((flow_boxed w ⟨res, org, thr, cnt, 2, ref, 1, warm, queue, cl, id, fb⟩).below ((Below.refl _ _).alloc (Nat.le_refl _) (.cells #[.string org] 9))).below ((Below.refl _ _).alloc (Nat.le_refl _) (.cells #[.string ref] 9)))
      have HB : Hid (Below w.heap.size w (((w.alloc (boxC ⟨res, org, thr, cnt, 2, ref, 1, warm, queue, cl, id, fb⟩)).alloc (.cells #[.string org] 9)).alloc (.cells #[.string ref] 9))) := (((Below.refl _ _).alloc (Nat.le_refl _) _).alloc (by simp) _).alloc (by simp; omega) _
      go_enter Try.func17, Try.ntmps17
      go_wp2_with (at_builtin; refine wpList_append_own _ (by rfl) (.tmp 18) (.tmp 21) 36 (by rfl) (w.heap.size + 1) 9 i0 (.string ⟨#[]⟩) 1 16 Try.underlying36 hi hz0 hz1 hz2 rfl (by decide) (.slice (some ⟨w.heap.size + 1, 0, none⟩) 1 1) 1 [.string org] (by rfl) (hown1.alloc (.cells #[.string ref] 9)) ⟨w.heap.size + 1 + 1, 0, none⟩ 1 1 [.string ref] (by rfl) rfl (kcell_atR _ _ 9 (by simp)) (by simp [Value.oneCell']) (by unfold maxLen; omega) (by omega) (by simp only [World.size_alloc]; omega) ?_; (
          intro v4 w4 hown4 hg4 _
          obtain ⟨a4, c4, rfl, ht4⟩ := own_two hown4
          have hz4 : w.heap.size + 3 ≤ w4.heap.size := by have := hg4.size; simp only [World.size_alloc] at this; omega
          have hfb := HF.out.of_block (hg4.block w.heap.size (by simp only [World.size_alloc]; omega) (by simp [Value.ownBlock]))
          have q6 := hfb.c6
          have q1 := fun o => (hfb.below ((Below.refl _ _).alloc (Nat.le_refl _) o)).c6
          have q2 := fun o o' => ((hfb.below ((Below.refl _ _).alloc (Nat.le_refl _) o)).below ((Below.refl _ _).alloc (Nat.le_refl _) o')).c6
          have q3 := fun o o' o'' => (((hfb.below ((Below.refl _ _).alloc (Nat.le_refl _) o)).below ((Below.refl _ _).alloc (Nat.le_refl _) o')).below ((Below.refl _ _).alloc (Nat.le_refl _) o'')).c6
          have q0 := fun o o' o'' => (((hfb.below ((Below.refl _ _).alloc (Nat.le_refl _) o)).below ((Below.refl _ _).alloc (Nat.le_refl _) o')).below ((Below.refl _ _).alloc (Nat.le_refl _) o'')).c0
          have HB4 : Hid (Below w.heap.size w w4) := HB.out.grown hg4 (by simp only [World.size_alloc]; omega) (fun k e => by
            have : w.heap.size + 1 = k := by simpa [Value.ownBlock] using e
            omega)
          have HFB := Lib.hid hfb
          obtain ⟨d, hd⟩ : ∃ d, w4.heap.size = w.heap.size + d + 3 := ⟨w4.heap.size - w.heap.size - 3, by omega⟩
          have HT4 := Lib.hid ht4
          clear hown4 hg4 hfb ht4 hown1 HF HB hz4))
      go_wp2_with (fail)
      refine (flow_tail (w4 := w4) ⟨res, org, thr, cnt, 2, ref, 1, warm, queue, cl, id, fb⟩ z0 w.heap.size (w.heap.size + d + 3) hd 1 true false a4 2 c4 [org, ref] rfl (by omega) HT4.out (by intro s hs; simp at hs; rcases hs with rfl | rfl; exact z1; exact z2) HFB.out).mono ?_
      rintro e w' ⟨rfl, h⟩
      go_wp2_with (fail)
      go_ret
      exact ⟨by rw [HE.out]; rfl, HB4.out.trans (h.mono (by omega))⟩
    by_cases s2 : shape = 2
    · subst s2
      have hE : flowE ⟨res, org, thr, cnt, 2, ref, 2, warm, queue, cl, id, fb⟩ = lookE (namedB res [org, ref]) (mustL ⟨res, org, thr, cnt, 2, ref, 2, warm, queue, cl, id, fb⟩ 1 false true) 30 := by
        have e0 : namesF ⟨res, org, thr, cnt, 2, ref, 2, warm, queue, cl, id, fb⟩ = [org, ref] := rfl
        have e1 : leastF ⟨res, org, thr, cnt, 2, ref, 2, warm, queue, cl, id, fb⟩ = 1 := by rfl
        have e2 : warmF ⟨res, org, thr, cnt, 2, ref, 2, warm, queue, cl, id, fb⟩ = false := by rfl
        have e3 : pacedF ⟨res, org, thr, cnt, 2, ref, 2, warm, queue, cl, id, fb⟩ = true := by rfl
        rw [flowE, e0, e1, e2, e3]
      have HE := Lib.hid hE
      clear hE
      have hown1 : ((w.alloc (boxC ⟨res, org, thr, cnt, 2, ref, 2, warm, queue, cl, id, fb⟩)).alloc (.cells #[.string org] 9)).ownsRow (w.heap.size + 1) 9 1 (.slice (some ⟨w.heap.size + 1, 0, none⟩) 1 1) 1 [.string org] := by
        have := World.ownsRow_lit (base := w.heap.size + 1) (size := 1) (e := 9) (w.alloc (boxC ⟨res, org, thr, cnt, 2, ref, 2, warm, queue, cl, id, fb⟩)) #[.string org] 1 (by simp) (by decide) rfl
        simpa using this
      have HF := Lib.hid (((flow_boxed w ⟨res, org, thr, cnt, 2, ref, 2, warm, queue, cl, id, fb⟩).below ((Below.refl _ _).alloc (Nat.le_refl _) (.cells #[.string org] 9))).below ((Below.refl _ _).alloc (Nat.le_refl _) (.cells #[.string ref] 9)))
      have HB : Hid (Below w.heap.size w (((w.alloc (boxC ⟨res, org, thr, cnt, 2, ref, 2, warm, queue, cl, id, fb⟩)).alloc (.cells #[.string org] 9)).alloc (.cells #[.string ref] 9))) := (((Below.refl _ _).alloc (Nat.le_refl _) _).alloc (by simp) _).alloc (by simp; omega) _
      go_enter Try.func17, Try.ntmps17
      go_wp2_with (at_builtin; refine wpList_append_own _ (by rfl) (.tmp 18) (.tmp 21) 36 (by rfl) (w.heap.size + 1) 9 i0 (.string ⟨#[]⟩) 1 16 Try.underlying36 hi hz0 hz1 hz2 rfl (by decide) (.slice (some ⟨w.heap.size + 1, 0, none⟩) 1 1) 1 [.string org] (by rfl) (hown1.alloc (.cells #[.string ref] 9)) ⟨w.heap.size + 1 + 1, 0, none⟩ 1 1 [.string ref] (by rfl) rfl (kcell_atR _ _ 9 (by simp)) (by simp [Value.oneCell']) (by unfold maxLen; omega) (by omega) (by simp only [World.size_alloc]; omega) ?_; (
          intro v4 w4 hown4 hg4 _
          obtain ⟨a4, c4, rfl, ht4⟩ := own_two hown4
          have hz4 : w.heap.size + 3 ≤ w4.heap.size := by have := hg4.size; simp only [World.size_alloc] at this; omega
          have hfb := HF.out.of_block (hg4.block w.heap.size (by simp only [World.size_alloc]; omega) (by simp [Value.ownBlock]))
          have q6 := hfb.c6
          have q1 := fun o => (hfb.below ((Below.refl _ _).alloc (Nat.le_refl _) o)).c6
          have q2 := fun o o' => ((hfb.below ((Below.refl _ _).alloc (Nat.le_refl _) o)).below ((Below.refl _ _).alloc (Nat.le_refl _) o')).c6
          have q3 := fun o o' o'' => (((hfb.below ((Below.refl _ _).alloc (Nat.le_refl _) o)).below ((Below.refl _ _).alloc (Nat.le_refl _) o')).below ((Below.refl _ _).alloc (Nat.le_refl _) o'')).c6
          have q0 := fun o o' o'' => (((hfb.below ((Below.refl _ _).alloc (Nat.le_refl _) o)).below ((Below.refl _ _).alloc (Nat.le_refl _) o')).below ((Below.refl _ _).alloc (Nat.le_refl _) o'')).c0
          have HB4 : Hid (Below w.heap.size w w4) := HB.out.grown hg4 (by simp only [World.size_alloc]; omega) (fun k e => by
            have : w.heap.size + 1 = k := by simpa [Value.ownBlock] using e
            omega)
          have HFB := Lib.hid hfb
          obtain ⟨d, hd⟩ : ∃ d, w4.heap.size = w.heap.size + d + 3 := ⟨w4.heap.size - w.heap.size - 3, by omega⟩
          have HT4 := Lib.hid ht4
          clear hown4 hg4 hfb ht4 hown1 HF HB hz4))
      go_wp2_with (fail)
      refine (flow_tail (w4 := w4) ⟨res, org, thr, cnt, 2, ref, 2, warm, queue, cl, id, fb⟩ z0 w.heap.size (w.heap.size + d + 3) hd 1 false true a4 2 c4 [org, ref] rfl (by omega) HT4.out (by intro s hs; simp at hs; rcases hs with rfl | rfl; exact z1; exact z2) HFB.out).mono ?_
      rintro e w' ⟨rfl, h⟩
      go_wp2_with (fail)
      go_ret
      exact ⟨by rw [HE.out]; rfl, HB4.out.trans (h.mono (by omega))⟩
    by_cases s3 : shape = 3
    · subst s3
      have hE : flowE ⟨res, org, thr, cnt, 2, ref, 3, warm, queue, cl, id, fb⟩ = lookE (namedB res [org, ref]) (mustL ⟨res, org, thr, cnt, 2, ref, 3, warm, queue, cl, id, fb⟩ 1 true true) 30 := by
        have e0 : namesF ⟨res, org, thr, cnt, 2, ref, 3, warm, queue, cl, id, fb⟩ = [org, ref] := rfl
        have e1 : leastF ⟨res, org, thr, cnt, 2, ref, 3, warm, queue, cl, id, fb⟩ = 1 := by rfl
        have e2 : warmF ⟨res, org, thr, cnt, 2, ref, 3, warm, queue, cl, id, fb⟩ = true := by rfl
        have e3 : pacedF ⟨res, org, thr, cnt, 2, ref, 3, warm, queue, cl, id, fb⟩ = true := by rfl
        rw [flowE, e0, e1, e2, e3]
      have HE := Lib.hid hE
      clear hE
      have hown1 : ((w.alloc (boxC ⟨res, org, thr, cnt, 2, ref, 3, warm, queue, cl, id, fb⟩)).alloc (.cells #[.string org] 9)).ownsRow (w.heap.size + 1) 9 1 (.slice (some ⟨w.heap.size + 1, 0, none⟩) 1 1) 1 [.string org] := by
        have := World.ownsRow_lit (base := w.heap.size + 1) (size := 1) (e := 9) (w.alloc (boxC ⟨res, org, thr, cnt, 2, ref, 3, warm, queue, cl, id, fb⟩)) #[.string org] 1 (by simp) (by decide) rfl
        simpa using this
      have HF := Lib.hid (((flow_boxed w ⟨res, org, thr, cnt, 2, ref, 3, warm, queue, cl, id, fb⟩).below ((Below.refl _ _).alloc (Nat.le_refl _) (.cells #[.string org] 9))).below ((Below.refl _ _).alloc (Nat.le_refl _) (.cells #[.string ref] 9)))
      have HB : Hid (Below w.heap.size w (((w.alloc (boxC ⟨res, org, thr, cnt, 2, ref, 3, warm, queue, cl, id, fb⟩)).alloc (.cells #[.string org] 9)).alloc (.cells #[.string ref] 9))) := (((Below.refl _ _).alloc (Nat.le_refl _) _).alloc (by simp) _).alloc (by simp; omega) _
      go_enter Try.func17, Try.ntmps17
      go_wp2_with (at_builtin; refine wpList_append_own _ (by rfl) (.tmp 18) (.tmp 21) 36 (by rfl) (w.heap.size + 1) 9 i0 (.string ⟨#[]⟩) 1 16 Try.underlying36 hi hz0 hz1 hz2 rfl (by decide) (.slice (some ⟨w.heap.size + 1, 0, none⟩) 1 1) 1 [.string org] (by rfl) (hown1.alloc (.cells #[.string ref] 9)) ⟨w.heap.size + 1 + 1, 0, none⟩ 1 1 [.string ref] (by rfl) rfl (kcell_atR _ _ 9 (by simp)) (by simp [Value.oneCell']) (by unfold maxLen; omega) (by omega) (by simp only [World.size_alloc]; omega) ?_; (
          intro v4 w4 hown4 hg4 _
          obtain ⟨a4, c4, rfl, ht4⟩ := own_two hown4
          have hz4 : w.heap.size + 3 ≤ w4.heap.size := by have := hg4.size; simp only [World.size_alloc] at this; omega
          have hfb := HF.out.of_block (hg4.block w.heap.size (by simp only [World.size_alloc]; omega) (by simp [Value.ownBlock]))
          have q6 := hfb.c6
          have q1 := fun o => (hfb.below ((Below.refl _ _).alloc (Nat.le_refl _) o)).c6
          have q2 := fun o o' => ((hfb.below ((Below.refl _ _).alloc (Nat.le_refl _) o)).below ((Below.refl _ _).alloc (Nat.le_refl _) o')).c6
          have q3 := fun o o' o'' => (((hfb.below ((Below.refl _ _).alloc (Nat.le_refl _) o)).below ((Below.refl _ _).alloc (Nat.le_refl _) o')).below ((Below.refl _ _).alloc (Nat.le_refl _) o'')).c6
          have q0 := fun o o' o'' => (((hfb.below ((Below.refl _ _).alloc (Nat.le_refl _) o)).below ((Below.refl _ _).alloc (Nat.le_refl _) o')).below ((Below.refl _ _).alloc (Nat.le_refl _) o'')).c0
          have HB4 : Hid (Below w.heap.size w w4) := HB.out.grown hg4 (by simp only [World.size_alloc]; omega) (fun k e => by
            have : w.heap.size + 1 = k := by simpa [Value.ownBlock] using e
            omega)
          have HFB := Lib.hid hfb
          obtain ⟨d, hd⟩ : ∃ d, w4.heap.size = w.heap.size + d + 3 := ⟨w4.heap.size - w.heap.size - 3, by omega⟩
          have HT4 := Lib.hid ht4
          clear hown4 hg4 hfb ht4 hown1 HF HB hz4))
      go_wp2_with (fail)
      refine (flow_tail (w4 := w4) ⟨res, org, thr, cnt, 2, ref, 3, warm, queue, cl, id, fb⟩ z0 w.heap.size (w.heap.size + d + 3) hd 1 true true a4 2 c4 [org, ref] rfl (by omega) HT4.out (by intro s hs; simp at hs; rcases hs with rfl | rfl; exact z1; exact z2) HFB.out).mono ?_
      rintro e w' ⟨rfl, h⟩
      go_wp2_with (fail)
      go_ret
      exact ⟨by rw [HE.out]; rfl, HB4.out.trans (h.mono (by omega))⟩
    · have t0 : (shape == 0) = false := by simpa using s0
      have t1' : (shape == 1) = false := by simpa using s1
      have t2' : (shape == 2) = false := by simpa using s2
      have t3' : (shape == 3) = false := by simpa using s3
      have hE : flowE ⟨res, org, thr, cnt, 2, ref, shape, warm, queue, cl, id, fb⟩ = lookE (namedB res [org, ref]) (mustL ⟨res, org, thr, cnt, 2, ref, shape, warm, queue, cl, id, fb⟩ 1 false false) 30 := by
        have e0 : namesF ⟨res, org, thr, cnt, 2, ref, shape, warm, queue, cl, id, fb⟩ = [org, ref] := rfl
        have e1 : leastF ⟨res, org, thr, cnt, 2, ref, shape, warm, queue, cl, id, fb⟩ = 1 := by simp [leastF, s0]
        have e2 : warmF ⟨res, org, thr, cnt, 2, ref, shape, warm, queue, cl, id, fb⟩ = false := by simp [warmF, s1, s3]
        have e3 : pacedF ⟨res, org, thr, cnt, 2, ref, shape, warm, queue, cl, id, fb⟩ = false := by simp [pacedF, s2, s3]
        rw [flowE, e0, e1, e2, e3]
      have HE := Lib.hid hE
      clear hE s0 s1 s2 s3
      have hown1 : ((w.alloc (boxC ⟨res, org, thr, cnt, 2, ref, shape, warm, queue, cl, id, fb⟩)).alloc (.cells #[.string org] 9)).ownsRow (w.heap.size + 1) 9 1 (.slice (some ⟨w.heap.size + 1, 0, none⟩) 1 1) 1 [.string org] := by
        have := World.ownsRow_lit (base := w.heap.size + 1) (size := 1) (e := 9) (w.alloc (boxC ⟨res, org, thr, cnt, 2, ref, shape, warm, queue, cl, id, fb⟩)) #[.string org] 1 (by simp) (by decide) rfl
        simpa using this
      have HF := Lib.hid (((flow_boxed w ⟨res, org, thr, cnt, 2, ref, shape, warm, queue, cl, id, fb⟩).below ((Below.refl _ _).alloc (Nat.le_refl _) (.cells #[.string org] 9))).below ((Below.refl _ _).alloc (Nat.le_refl _) (.cells #[.string ref] 9)))
      have HB : Hid (Below w.heap.size w (((w.alloc (boxC ⟨res, org, thr, cnt, 2, ref, shape, warm, queue, cl, id, fb⟩)).alloc (.cells #[.string org] 9)).alloc (.cells #[.string ref] 9))) := (((Below.refl _ _).alloc (Nat.le_refl _) _).alloc (by simp) _).alloc (by simp; omega) _
      go_enter Try.func17, Try.ntmps17
      go_wp2_with (at_builtin; refine wpList_append_own _ (by rfl) (.tmp 18) (.tmp 21) 36 (by rfl) (w.heap.size + 1) 9 i0 (.string ⟨#[]⟩) 1 16 Try.underlying36 hi hz0 hz1 hz2 rfl (by decide) (.slice (some ⟨w.heap.size + 1, 0, none⟩) 1 1) 1 [.string org] (by rfl) (hown1.alloc (.cells #[.string ref] 9)) ⟨w.heap.size + 1 + 1, 0, none⟩ 1 1 [.string ref] (by rfl) rfl (kcell_atR _ _ 9 (by simp)) (by simp [Value.oneCell']) (by unfold maxLen; omega) (by omega) (by simp only [World.size_alloc]; omega) ?_; (
          intro v4 w4 hown4 hg4 _
          obtain ⟨a4, c4, rfl, ht4⟩ := own_two hown4
          have hz4 : w.heap.size + 3 ≤ w4.heap.size := by have := hg4.size; simp only [World.size_alloc] at this; omega
          have hfb := HF.out.of_block (hg4.block w.heap.size (by simp only [World.size_alloc]; omega) (by simp [Value.ownBlock]))
          have q6 := hfb.c6
          have q1 := fun o => (hfb.below ((Below.refl _ _).alloc (Nat.le_refl _) o)).c6
          have q2 := fun o o' => ((hfb.below ((Below.refl _ _).alloc (Nat.le_refl _) o)).below ((Below.refl _ _).alloc (Nat.le_refl _) o')).c6
          have q3 := fun o o' o'' => (((hfb.below ((Below.refl _ _).alloc (Nat.le_refl _) o)).below ((Below.refl _ _).alloc (Nat.le_refl _) o')).below ((Below.refl _ _).alloc (Nat.le_refl _) o'')).c6
          have q0 := fun o o' o'' => (((hfb.below ((Below.refl _ _).alloc (Nat.le_refl _) o)).below ((Below.refl _ _).alloc (Nat.le_refl _) o')).below ((Below.refl _ _).alloc (Nat.le_refl _) o'')).c0
          have HB4 : Hid (Below w.heap.size w w4) := HB.out.grown hg4 (by simp only [World.size_alloc]; omega) (fun k e => by
            have : w.heap.size + 1 = k := by simpa [Value.ownBlock] using e
            omega)
          have HFB := Lib.hid hfb
          obtain ⟨d, hd⟩ : ∃ d, w4.heap.size = w.heap.size + d + 3 := ⟨w4.heap.size - w.heap.size - 3, by omega⟩
          have HT4 := Lib.hid ht4
          clear hown4 hg4 hfb ht4 hown1 HF HB hz4))
      go_wp2_with (fail)
      refine (flow_tail (w4 := w4) ⟨res, org, thr, cnt, 2, ref, shape, warm, queue, cl, id, fb⟩ z0 w.heap.size (w.heap.size + d + 3) hd 1 false false a4 2 c4 [org, ref] rfl (by omega) HT4.out (by intro s hs; simp at hs; rcases hs with rfl | rfl; exact z1; exact z2) HFB.out).mono ?_
      rintro e w' ⟨rfl, h⟩
      go_wp2_with (fail)
      go_ret
      exact ⟨by rw [HE.out]; rfl, HB4.out.trans (h.mono (by omega))⟩

theorem flow_any (f : FlowS) (z0 : f.res.size ≤ maxLen) (z1 : f.org.size ≤ maxLen) (z2 : f.ref.size ≤ maxLen) (w : World) :
    Calls Try.prog 17 #[f.v] w fun e w' => e = .returned (.int .i64 (flowE f)) ∧ Below w.heap.size w w' := by
  by_cases h : f.strat = 1 ∨ f.strat = 2
  · exact flow_two f z0 z1 z2 h w
  · refine flow_plain f z0 z1 ?_ w
    rw [Bool.or_eq_false_iff]
    exact ⟨by simp; exact fun e => h (Or.inl e), by simp; exact fun e => h (Or.inr e)⟩
end Go.Proofs.Ytgkdpkpiejjfmaa
