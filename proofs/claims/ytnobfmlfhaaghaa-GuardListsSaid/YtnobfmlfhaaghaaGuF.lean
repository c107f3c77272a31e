/- guard: live. -/
import Derived.Test.YtnobfmlfhaaghaaGuE
namespace Go.Proofs.Ytnobfmlfhaaghaa
open Go.RowKit
set_option linter.unusedVariables false
set_option linter.unusedSimpArgs false

theorem texts_oneG (w : World) (s : ByteArray) (b : Nat) (hb : b = w.heap.size) : TextsAt (w.alloc (.cells #[.string s] 9)) (some ⟨b, 0, none⟩) [s] := by
  subst hb
  refine Or.inr ⟨_, 0, rfl, by simp, fun j hj => ?_⟩
  have : j = 0 := by simp at hj; omega
  subst this
  have hz : (w.alloc (.cells #[.string s] 9)).heap[w.heap.size]? = some (.cells #[.string s] 9) := by rw [get_allocG, if_pos rfl]
  simp only [World.cell?, hz]; rfl
def liveR : SysS := ⟨10, -1, -1, 1000, -1⟩
def liveN : NowS := ⟨8, 5, 0, 1500, 0, 2, 100000⟩
def liveM : NowS := ⟨8, 2, 0, 1500, 0, 2, 100000⟩
theorem lv1 : fieldT liveR 2 liveN = tLoad := by decide +kernel
theorem lv2 : passB liveR 2 liveM = true := by decide +kernel
theorem lv3 : fieldT liveR 3 liveM = tQps := by decide +kernel
theorem lv4 : capN 2 100000 = 2 := by decide +kernel
theorem lv5 : listB ⟨#[97]⟩ true [⟨#[120]⟩] ⟨#[120]⟩ = true := by decide +kernel
theorem lv6 : listB ⟨#[97]⟩ false [⟨#[120]⟩] ⟨#[120]⟩ = false := by decide +kernel

set_option maxHeartbeats 3200000 in
theorem glive_any (w : World) : Calls Try.prog 8 #[] w fun e w' => e = .returned (.bool true) ∧ Below w.heap.size w w' := by
  have H1 := Lib.hid (fun wx => fieldt_any liveR 2 liveN wx)
  have H2 := Lib.hid (fun wx => gsystem_any liveR 2 liveM wx)
  have H3 := Lib.hid (fun wx => fieldt_any liveR 3 liveM wx)
  have H4 := Lib.hid (fun wx => capacity_any 2 100000 (by omega) (by omega) (by omega) (by omega) wx)
  have H5 := Lib.hid (fun (wx : World) => glist_any (w := wx.alloc (.cells #[.string ⟨#[120]⟩] 9)) ⟨#[97]⟩ true (by unfold maxLen; decide) (some ⟨wx.heap.size, 0, none⟩) 1 1 [⟨#[120]⟩] rfl (by omega) (by omega) (texts_oneG wx _ _ rfl) (by intro s hs; simp at hs; subst hs; unfold maxLen; decide) ⟨#[120]⟩)
  have H6 := Lib.hid (fun (wx : World) => glist_any (w := wx.alloc (.cells #[.string ⟨#[120]⟩] 9)) ⟨#[97]⟩ false (by unfold maxLen; decide) (some ⟨wx.heap.size, 0, none⟩) 1 1 [⟨#[120]⟩] rfl (by omega) (by omega) (texts_oneG wx _ _ rfl) (by intro s hs; simp at hs; subst hs; unfold maxLen; decide) ⟨#[120]⟩)
  rw [lv1] at H1
  rw [lv2] at H2
  rw [lv3] at H3
  rw [lv4] at H4
  rw [lv5] at H5
  rw [lv6] at H6
  unfold liveR liveN SysS.c NowS.c at H1
  unfold liveR liveM SysS.c NowS.c at H2 H3
  dsimp only at H1 H2 H3
  obtain ⟨W, hW⟩ : ∃ W, ((w.alloc (.cells #[.int .i64 10, .int .i64 (-1), .int .i64 (-1), .int .i64 1000, .int .i64 (-1)] 23)).alloc (.cells #[.int .i64 8, .int .i64 5, .int .i64 0, .int .i64 1500, .int .i64 0, .int .i64 2, .int .i64 100000] 29)).alloc (.cells #[.int .i64 8, .int .i64 2, .int .i64 0, .int .i64 1500, .int .i64 0, .int .i64 2, .int .i64 100000] 29) = W := ⟨_, rfl⟩
  have hb : Below w.heap.size w W := by rw [← hW]; exact (((Below.refl _ _).alloc (Nat.le_refl _) _).alloc (by simp) _).alloc (by simp; omega) _
  have h0 : W.heap[w.heap.size]? = some (.cells #[.int .i64 10, .int .i64 (-1), .int .i64 (-1), .int .i64 1000, .int .i64 (-1)] 23) := by
    rw [← hW]; simp only [get_allocG, World.size_alloc, if_true]; rw [if_neg (by omega), if_neg (by omega)]
  have h2 : W.heap[w.heap.size + 1 + 1]? = some (.cells #[.int .i64 8, .int .i64 2, .int .i64 0, .int .i64 1500, .int .i64 0, .int .i64 2, .int .i64 100000] 29) := by
    rw [← hW]; simp only [get_allocG, World.size_alloc, if_true]
  have hsz : W.heap.size = w.heap.size + 3 := by rw [← hW]; simp
  have HQ : Hid (∀ wx : World, Below w.heap.size w wx → Below W.heap.size W wx → (wx.cell? ⟨w.heap.size, 0, none⟩ = some (.int .i64 10) ∧ wx.cell? ⟨w.heap.size, 1, none⟩ = some (.int .i64 (-1)) ∧ wx.cell? ⟨w.heap.size, 2, none⟩ = some (.int .i64 (-1)) ∧ wx.cell? ⟨w.heap.size, 3, none⟩ = some (.int .i64 1000) ∧ wx.cell? ⟨w.heap.size, 4, none⟩ = some (.int .i64 (-1))) ∧
      (wx.cell? ⟨w.heap.size + 1 + 1, 0, none⟩ = some (.int .i64 8) ∧ wx.cell? ⟨w.heap.size + 1 + 1, 1, none⟩ = some (.int .i64 2) ∧ wx.cell? ⟨w.heap.size + 1 + 1, 2, none⟩ = some (.int .i64 0) ∧ wx.cell? ⟨w.heap.size + 1 + 1, 3, none⟩ = some (.int .i64 1500) ∧ wx.cell? ⟨w.heap.size + 1 + 1, 4, none⟩ = some (.int .i64 0) ∧ wx.cell? ⟨w.heap.size + 1 + 1, 5, none⟩ = some (.int .i64 2) ∧ wx.cell? ⟨w.heap.size + 1 + 1, 6, none⟩ = some (.int .i64 100000))) := fun wx _ hbx => by
    have g0 := (hbx.block w.heap.size (by omega)).trans h0
    have g1 := (hbx.block (w.heap.size + 1 + 1) (by omega)).trans h2
    simp only [World.cell?, g0, g1]
    exact ⟨⟨rfl, rfl, rfl, rfl, rfl⟩, ⟨rfl, rfl, rfl, rfl, rfl, rfl, rfl⟩⟩
  have HB := Lib.hid hb
  clear hb h0 h2 hsz
  subst hW
  go_enter Try.func8, Try.ntmps8
  go_wp2_with (fail)
  refine (H1.out _).mono ?_
  rintro e wa ⟨rfl, ha⟩
  obtain ⟨⟨x0, x1, x2, x3, x4⟩, ⟨y0, y1, y2, y3, y4, y5, y6⟩⟩ := HQ.out _ (HB.out.trans (ha.mono HB.out.size)) ha
  have HA := Lib.hid ha
  clear ha
  unfold tLoad
  go_wp2_with (fail)
  refine (H2.out _).mono ?_
  rintro e wb ⟨rfl, hb⟩
  have HA2 := Lib.hid (HA.out.trans (hb.mono HA.out.size))
  clear x0 x1 x2 x3 x4 y0 y1 y2 y3 y4 y5 y6 hb
  obtain ⟨⟨x0, x1, x2, x3, x4⟩, ⟨y0, y1, y2, y3, y4, y5, y6⟩⟩ := HQ.out _ (HB.out.trans (HA2.out.mono HB.out.size)) HA2.out
  go_wp2_with (fail)
  refine (H3.out _).mono ?_
  rintro e wc ⟨rfl, hc⟩
  unfold tQps
  have HA3 := Lib.hid (HA2.out.trans (hc.mono HA2.out.size))
  clear x0 x1 x2 x3 x4 y0 y1 y2 y3 y4 y5 y6 hc
  go_wp2_with (fail)
  refine (H4.out _).mono ?_
  rintro e wd ⟨rfl, hd⟩
  have HA4 := Lib.hid (HB.out.trans ((HA3.out.trans (hd.mono HA3.out.size)).mono HB.out.size))
  clear hd
  go_wp2_with (fail)
  refine (H5.out _).mono ?_
  rintro e we ⟨rfl, he⟩
  have hA5 := HA4.out.alloc HA4.out.size (.cells #[.string ⟨#[120]⟩] 9)
  have HA5 := Lib.hid (hA5.trans (he.mono hA5.size))
  clear he hA5
  go_wp2_with (fail)
  refine (H6.out _).mono ?_
  rintro e wf ⟨rfl, hf⟩
  have hA6 := HA5.out.alloc HA5.out.size (.cells #[.string ⟨#[120]⟩] 9)
  have HA6 := Lib.hid (hA6.trans (hf.mono hA6.size))
  clear hf hA6
  go_wp2_with (fail)
  go_ret
  exact ⟨rfl, HA6.out⟩
end Go.Proofs.Ytnobfmlfhaaghaa
