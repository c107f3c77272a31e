/- rules: what must be of a flow rule. -/
import Derived.Test.YtgkdpkpiejjfmaaRuC
import Derived.Test.YtgkdpkpiejjfmaaFlow
namespace Go.Proofs.Ytgkdpkpiejjfmaa
open Go.RowKit
set_option linter.unusedVariables false
set_option linter.unusedSimpArgs false

structure FlowBox (w : World) (b : Nat) (f : FlowS) : Prop where
  c0 : w.cell? ⟨b, 0, none⟩ = some (.string f.res)
  c1 : w.cell? ⟨b, 1, none⟩ = some (.string f.org)
  c2 : w.cell? ⟨b, 2, none⟩ = some (.bool f.thr)
  c3 : w.cell? ⟨b, 3, none⟩ = some (.int .i64 f.cnt)
  c4 : w.cell? ⟨b, 4, none⟩ = some (.int .u8 f.strat)
  c5 : w.cell? ⟨b, 5, none⟩ = some (.string f.ref)
  c6 : w.cell? ⟨b, 6, none⟩ = some (.int .u8 f.shape)
  c7 : w.cell? ⟨b, 7, none⟩ = some (.int .i64 f.warm)
  c8 : w.cell? ⟨b, 8, none⟩ = some (.int .i64 f.queue)
  c9 : w.cell? ⟨b, 9, none⟩ = some (.bool f.cl)
  c10 : w.cell? ⟨b, 10, none⟩ = some (.int .i64 f.id)
  c11 : w.cell? ⟨b, 11, none⟩ = some (.bool f.fb)
theorem FlowBox.of_block {w w' : World} {b : Nat} {f : FlowS} (h : FlowBox w b f) (hb : w'.heap[b]? = w.heap[b]?) : FlowBox w' b f :=
  ⟨(World.cell?_of_block (a := ⟨b, 0, none⟩) hb).trans h.c0, (World.cell?_of_block (a := ⟨b, 1, none⟩) hb).trans h.c1, (World.cell?_of_block (a := ⟨b, 2, none⟩) hb).trans h.c2, (World.cell?_of_block (a := ⟨b, 3, none⟩) hb).trans h.c3, (World.cell?_of_block (a := ⟨b, 4, none⟩) hb).trans h.c4, (World.cell?_of_block (a := ⟨b, 5, none⟩) hb).trans h.c5, (World.cell?_of_block (a := ⟨b, 6, none⟩) hb).trans h.c6, (World.cell?_of_block (a := ⟨b, 7, none⟩) hb).trans h.c7, (World.cell?_of_block (a := ⟨b, 8, none⟩) hb).trans h.c8, (World.cell?_of_block (a := ⟨b, 9, none⟩) hb).trans h.c9, (World.cell?_of_block (a := ⟨b, 10, none⟩) hb).trans h.c10, (World.cell?_of_block (a := ⟨b, 11, none⟩) hb).trans h.c11⟩

def m1 (f : FlowS) (least : Int) : Bool := decide (least ≤ f.cnt) && decide (f.cnt ≤ 1099511627776)
def m2 (f : FlowS) : Bool := decide (f.strat ≤ 2) && decide (f.shape ≤ 3)
def m3 (f : FlowS) : Bool := (f.strat != 0) || (f.ref.toList == [])
def m4 (f : FlowS) : Bool := !f.thr || ((f.shape == 0) && !f.cl)
def m5 (f : FlowS) (warm paced : Bool) : Bool := onlyB warm f.warm 1 3600 && onlyB paced f.queue 0 3600000000
def m6 (f : FlowS) : Bool := !f.cl || ((f.strat == 0) && (f.shape == 0))
def m7 (f : FlowS) : Bool := onlyB f.cl f.id 1 1099511627776 && (f.cl || !f.fb)

theorem flow1 (f : FlowS) (least : Int) (b l : Nat) (w : World) (h : FlowBox w b f) (hl : w.cell? ⟨l, 0, none⟩ = some (.int .i64 least)) :
    Calls Try.prog 34 #[.pointer (some ⟨b, 0, none⟩), .pointer (some ⟨l, 0, none⟩)] w fun e w' => e = .returned (.bool (m1 f least)) ∧ w' = w := by
  have d3 := h.c3
  have HX := Lib.hid (within_any f.cnt least 1099511627776 w)
  clear h
  go_enter Try.func34, Try.ntmps34
  go_wp2_with (fail)
  refine HX.out.mono ?_
  rintro e w1 ⟨rfl, rfl⟩
  go_wp2_with (fail)
  go_ret
  exact ⟨rfl, rfl⟩

set_option maxHeartbeats 1600000 in
theorem flow2 (f : FlowS) (b : Nat) (w : World) (h : FlowBox w b f) :
    Calls Try.prog 36 #[.pointer (some ⟨b, 0, none⟩)] w fun e w' => e = .returned (.bool (m2 f)) ∧ w' = w := by
  have d4 := h.c4
  have d6 := h.c6
  unfold m2
  clear h
  obtain ⟨res, org, thr, cnt, strat, ref, shape, warm, queue, cl, id, fb⟩ := f
  dsimp only at *
  by_cases h2 : strat ≤ 2
  · by_cases h1 : shape ≤ 3
    · go_enter Try.func36, Try.ntmps36
      go_wp2_with (fail)
      go_ret
      exact ⟨by first | rfl | (simp [*]; done) | simp_all, rfl⟩
    · go_enter Try.func36, Try.ntmps36
      go_wp2_with (fail)
      go_ret
      exact ⟨by first | rfl | (simp [*]; done) | simp_all, rfl⟩
  · by_cases h1 : shape ≤ 3
    · go_enter Try.func36, Try.ntmps36
      go_wp2_with (fail)
      go_ret
      exact ⟨by first | rfl | (simp [*]; done) | simp_all, rfl⟩
    · go_enter Try.func36, Try.ntmps36
      go_wp2_with (fail)
      go_ret
      exact ⟨by first | rfl | (simp [*]; done) | simp_all, rfl⟩

set_option maxHeartbeats 1600000 in
theorem flow3 (f : FlowS) (b : Nat) (w : World) (h : FlowBox w b f) :
    Calls Try.prog 37 #[.pointer (some ⟨b, 0, none⟩)] w fun e w' => e = .returned (.bool (m3 f)) ∧ w' = w := by
  have d4 := h.c4
  have d5 := h.c5
  unfold m3
  clear h
  obtain ⟨res, org, thr, cnt, strat, ref, shape, warm, queue, cl, id, fb⟩ := f
  dsimp only at *
  cases h2 : (strat != 0)
  · cases h1 : (ref.toList == [])
    · go_enter Try.func37, Try.ntmps37
      go_wp2_with (fail)
      go_ret
      exact ⟨by first | rfl | (simp [*]; done) | simp_all, rfl⟩
    · go_enter Try.func37, Try.ntmps37
      go_wp2_with (fail)
      go_ret
      exact ⟨by first | rfl | (simp [*]; done) | simp_all, rfl⟩
  · cases h1 : (ref.toList == [])
    · go_enter Try.func37, Try.ntmps37
      go_wp2_with (fail)
      go_ret
      exact ⟨by first | rfl | (simp [*]; done) | simp_all, rfl⟩
    · go_enter Try.func37, Try.ntmps37
      go_wp2_with (fail)
      go_ret
      exact ⟨by first | rfl | (simp [*]; done) | simp_all, rfl⟩

set_option maxHeartbeats 1600000 in
theorem flow4 (f : FlowS) (b : Nat) (w : World) (h : FlowBox w b f) :
    Calls Try.prog 38 #[.pointer (some ⟨b, 0, none⟩)] w fun e w' => e = .returned (.bool (m4 f)) ∧ w' = w := by
  have d2 := h.c2
  have d6 := h.c6
  have d9 := h.c9
  unfold m4
  clear h
  obtain ⟨res, org, thr, cnt, strat, ref, shape, warm, queue, cl, id, fb⟩ := f
  dsimp only at *
  cases thr
  · cases h2 : (shape == 0)
    · cases cl
      · go_enter Try.func38, Try.ntmps38
        go_wp2_with (fail)
        go_ret
        exact ⟨by first | rfl | (simp [*]; done) | simp_all, rfl⟩
      · go_enter Try.func38, Try.ntmps38
        go_wp2_with (fail)
        go_ret
        exact ⟨by first | rfl | (simp [*]; done) | simp_all, rfl⟩
    · cases cl
      · go_enter Try.func38, Try.ntmps38
        go_wp2_with (fail)
        go_ret
        exact ⟨by first | rfl | (simp [*]; done) | simp_all, rfl⟩
      · go_enter Try.func38, Try.ntmps38
        go_wp2_with (fail)
        go_ret
        exact ⟨by first | rfl | (simp [*]; done) | simp_all, rfl⟩
  · cases h2 : (shape == 0)
    · cases cl
      · go_enter Try.func38, Try.ntmps38
        go_wp2_with (fail)
        go_ret
        exact ⟨by first | rfl | (simp [*]; done) | simp_all, rfl⟩
      · go_enter Try.func38, Try.ntmps38
        go_wp2_with (fail)
        go_ret
        exact ⟨by first | rfl | (simp [*]; done) | simp_all, rfl⟩
    · cases cl
      · go_enter Try.func38, Try.ntmps38
        go_wp2_with (fail)
        go_ret
        exact ⟨by first | rfl | (simp [*]; done) | simp_all, rfl⟩
      · go_enter Try.func38, Try.ntmps38
        go_wp2_with (fail)
        go_ret
        exact ⟨by first | rfl | (simp [*]; done) | simp_all, rfl⟩

set_option maxHeartbeats 1600000 in
theorem flow6 (f : FlowS) (b : Nat) (w : World) (h : FlowBox w b f) :
    Calls Try.prog 41 #[.pointer (some ⟨b, 0, none⟩)] w fun e w' => e = .returned (.bool (m6 f)) ∧ w' = w := by
  have d4 := h.c4
  have d6 := h.c6
  have d9 := h.c9
  unfold m6
  clear h
  obtain ⟨res, org, thr, cnt, strat, ref, shape, warm, queue, cl, id, fb⟩ := f
  dsimp only at *
  cases cl
  · cases h2 : (strat == 0)
    · cases h1 : (shape == 0)
      · go_enter Try.func41, Try.ntmps41
        go_wp2_with (fail)
        go_ret
        exact ⟨by first | rfl | (simp [*]; done) | simp_all, rfl⟩
      · go_enter Try.func41, Try.ntmps41
        go_wp2_with (fail)
        go_ret
        exact ⟨by first | rfl | (simp [*]; done) | simp_all, rfl⟩
    · cases h1 : (shape == 0)
      · go_enter Try.func41, Try.ntmps41
        go_wp2_with (fail)
        go_ret
        exact ⟨by first | rfl | (simp [*]; done) | simp_all, rfl⟩
      · go_enter Try.func41, Try.ntmps41
        go_wp2_with (fail)
        go_ret
        exact ⟨by first | rfl | (simp [*]; done) | simp_all, rfl⟩
  · cases h2 : (strat == 0)
    · cases h1 : (shape == 0)
      · go_enter Try.func41, Try.ntmps41
        go_wp2_with (fail)
        go_ret
        exact ⟨by first | rfl | (simp [*]; done) | simp_all, rfl⟩
      · go_enter Try.func41, Try.ntmps41
        go_wp2_with (fail)
        go_ret
        exact ⟨by first | rfl | (simp [*]; done) | simp_all, rfl⟩
    · cases h1 : (shape == 0)
      · go_enter Try.func41, Try.ntmps41
        go_wp2_with (fail)
        go_ret
        exact ⟨by first | rfl | (simp [*]; done) | simp_all, rfl⟩
      · go_enter Try.func41, Try.ntmps41
        go_wp2_with (fail)
        go_ret
        exact ⟨by first | rfl | (simp [*]; done) | simp_all, rfl⟩

set_option maxHeartbeats 1600000 in
theorem flow5 (f : FlowS) (warm paced : Bool) (b p q : Nat) (w : World) (h : FlowBox w b f) (hp : w.cell? ⟨p, 0, none⟩ = some (.bool warm)) (hq : w.cell? ⟨q, 0, none⟩ = some (.bool paced)) :
    Calls Try.prog 39 #[.pointer (some ⟨p, 0, none⟩), .pointer (some ⟨b, 0, none⟩), .pointer (some ⟨q, 0, none⟩)] w fun e w' => e = .returned (.bool (m5 f warm paced)) ∧ w' = w := by
  have d7 := h.c7
  have d8 := h.c8
  have HX := Lib.hid (only_any warm f.warm 1 3600 w)
  have HY := Lib.hid (only_any paced f.queue 0 3600000000 w)
  unfold m5
  clear h
  cases h1 : onlyB warm f.warm 1 3600
  · rw [h1] at HX
    go_enter Try.func39, Try.ntmps39
    go_wp2_with (fail)
    refine HX.out.mono ?_
    rintro e w1 ⟨rfl, rfl⟩
    go_wp2_with (fail)
    go_ret
    exact ⟨rfl, rfl⟩
  · rw [h1] at HX
    go_enter Try.func39, Try.ntmps39
    go_wp2_with (fail)
    refine HX.out.mono ?_
    rintro e w1 ⟨rfl, rfl⟩
    go_wp2_with (fail)
    refine HY.out.mono ?_
    rintro e w1 ⟨rfl, rfl⟩
    go_wp2_with (fail)
    go_ret
    exact ⟨rfl, rfl⟩

set_option maxHeartbeats 1600000 in
theorem flow7 (f : FlowS) (b : Nat) (w : World) (h : FlowBox w b f) :
    Calls Try.prog 42 #[.pointer (some ⟨b, 0, none⟩)] w fun e w' => e = .returned (.bool (m7 f)) ∧ w' = w := by
  have d9 := h.c9
  have d10 := h.c10
  have d11 := h.c11
  have HX := Lib.hid (only_any f.cl f.id 1 1099511627776 w)
  unfold m7
  clear h
  cases h1 : onlyB f.cl f.id 1 1099511627776
  · rw [h1] at HX
    go_enter Try.func42, Try.ntmps42
    go_wp2_with (fail)
    refine HX.out.mono ?_
    rintro e w1 ⟨rfl, rfl⟩
    go_wp2_with (fail)
    go_ret
    exact ⟨rfl, rfl⟩
  · rw [h1] at HX
    clear h1
    generalize f.cl = cl at *
    cases cl
    · go_enter Try.func42, Try.ntmps42
      go_wp2_with (fail)
      refine HX.out.mono ?_
      rintro e w1 ⟨rfl, rfl⟩
      go_wp2_with (fail)
      go_ret
      exact ⟨by simp, rfl⟩
    · go_enter Try.func42, Try.ntmps42
      go_wp2_with (fail)
      refine HX.out.mono ?_
      rintro e w1 ⟨rfl, rfl⟩
      go_wp2_with (fail)
      go_ret
      exact ⟨by simp, rfl⟩
end Go.Proofs.Ytgkdpkpiejjfmaa
