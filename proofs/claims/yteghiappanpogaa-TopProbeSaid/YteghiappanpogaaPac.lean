/- The layer pacing: how a pace lies in memory; Cost, next, rate. -/
import Derived.Test.YteghiappanpogaaNumLists
import Derived.Test.YteghiappanpogaaPacMath
import Derived.Test.YteghiappanpogaaTwo
namespace Go.Proofs.Yteghiappanpogaa
open Go.RowKit
set_option linter.unusedVariables false
set_option linter.unusedSimpArgs false

/-- A pace in memory. -/
structure PaceAt (w : World) (b : Nat) (s : PaceS) : Prop where
  c0 : w.cell? ⟨b, 0, none⟩ = some (.int .i64 s.t)
  c1 : w.cell? ⟨b, 1, none⟩ = some (.bool s.some)
  c2 : w.cell? ⟨b, 2, none⟩ = some (.int .i64 s.count)
  c3 : w.cell? ⟨b, 3, none⟩ = some (.int .i64 s.queue)
  c4 : w.cell? ⟨b, 4, none⟩ = some (.int .i64 s.noted)
  fr : ∀ o, w.frozen? ⟨b, o, none⟩ = false
  lt : b < w.heap.size

theorem PaceAt.of_block {w w' : World} {b : Nat} {s : PaceS} (h : PaceAt w b s) (hb : w'.heap[b]? = w.heap[b]?) (hz : w.heap.size ≤ w'.heap.size) : PaceAt w' b s :=
  ⟨(World.cell?_of_block (a := ⟨b, 0, none⟩) hb).trans h.c0, (World.cell?_of_block (a := ⟨b, 1, none⟩) hb).trans h.c1, (World.cell?_of_block (a := ⟨b, 2, none⟩) hb).trans h.c2, (World.cell?_of_block (a := ⟨b, 3, none⟩) hb).trans h.c3, (World.cell?_of_block (a := ⟨b, 4, none⟩) hb).trans h.c4, fun o => (World.frozen?_of_block (a := ⟨b, o, none⟩) hb).trans (h.fr o), Nat.lt_of_lt_of_le h.lt hz⟩
theorem PaceAt.below {w w' : World} {b : Nat} {s : PaceS} (h : PaceAt w b s) (hb : Below w.heap.size w w') : PaceAt w' b s := h.of_block (hb.block b h.lt) hb.size
theorem PaceAt.grown {w w' : World} {b : Nat} {s : PaceS} {r : Option Nat} (h : PaceAt w b s) (hg : w.grownBy w' r) (hne : some b ≠ r) : PaceAt w' b s := h.of_block (hg.block b h.lt hne) hg.size

theorem grown_below {w w' : World} (h : Below w.heap.size w w') (r : Option Nat) : w.grownBy w' r := ⟨h.os, h.tape, h.output, h.size, fun k hk _ => h.block k hk⟩
theorem grown_trans {a b c : World} {r : Option Nat} (h : a.grownBy b r) (k : b.grownBy c r) : a.grownBy c r :=
  ⟨k.os.trans h.os, k.tape.trans h.tape, k.output.trans h.output, Nat.le_trans h.size k.size, fun i hi hne => (k.block i (Nat.lt_of_lt_of_le hi h.size) hne).trans (h.block i hi hne)⟩
theorem grown_set {a b : World} {g : Nat} (h : a.grownBy b (some g)) (o : Nat) (u : Value) : a.grownBy (b.setCell ⟨g, o, none⟩ u) (some g) :=
  ⟨h.os, h.tape, h.output, by simpa [World.setCell] using h.size, fun i hi hne => (Below.heap_setCell b ⟨g, o, none⟩ u i (fun e => hne (by rw [e]))).trans (h.block i hi hne)⟩

set_option maxHeartbeats 400000 in
theorem cost_any (count rate : Int) (w : World) (a0 : -9223372036854775808 ≤ count) (a1 : count ≤ 9223372036854775807) (b0 : -9223372036854775808 ≤ rate) (b1 : rate ≤ 9223372036854775807) :
    Calls Try.prog 31 #[.int .i64 count, .int .i64 rate] w fun e w' => e = .returned (.tuple #[.int .i64 (costN count rate), .int .i64 (costE count rate)]) ∧ Below w.heap.size w w' := by
  by_cases h : tok count ∧ tok rate
  · have e1 := Lib.hid (show costN count rate = mdN count 1000000 rate true by
      have hb := cst_bd h.1 h.2
      have hz : rate ≠ 0 := by have := h.2.1; omega
      unfold costN mdN; rw [if_pos h, if_neg hz]
      have : fitB (rnd (count * 1000000) rate true) = true := fitB_yes (by have := hb.1; unfold cst at this; omega) (by have := hb.2; unfold cst at this; omega)
      rw [fitN_yes this]; rfl)
    have e2 := Lib.hid (show costE count rate = mdE count 1000000 rate true by
      have hb := cst_bd h.1 h.2
      have hz : rate ≠ 0 := by have := h.2.1; omega
      unfold costE mdE; rw [if_pos h, if_neg hz]
      have : fitB (rnd (count * 1000000) rate true) = true := fitB_yes (by have := hb.1; unfold cst at this; omega) (by have := hb.2; unfold cst at this; omega)
      rw [fitE_yes this])
    obtain ⟨⟨c1, c2⟩, ⟨d1, d2⟩⟩ := h
    rw [e1.out, e2.out]
    go_enter Try.func31, Try.ntmps31
    go_wp2_with (fail)
    refine (muldiv_any count 1000000 rate true _ a0 a1 (by decide) (by decide) b0 b1).mono ?_
    rintro e w1 ⟨rfl, hb1⟩
    go_wp2_with (fail)
    go_ret2
    exact ⟨rfl, hb1⟩
  · have e1 : costN count rate = 0 := by unfold costN; rw [if_neg h]
    have e2 : costE count rate = 2 := by unfold costE; rw [if_neg h]
    rw [e1, e2]
    clear e1 e2
    have h' : count < 1 ∨ 1099511627776 < count ∨ rate < 1 ∨ 1099511627776 < rate := by unfold tok at h; omega
    clear h
    by_cases k1 : count < 1
    · go_enter Try.func31, Try.ntmps31
      go_wp2_with (fail)
      go_ret2
      exact ⟨rfl, Below.refl _ _⟩
    · by_cases k2 : 1099511627776 < count
      · go_enter Try.func31, Try.ntmps31
        go_wp2_with (fail)
        go_ret2
        exact ⟨rfl, Below.refl _ _⟩
      · by_cases k3 : rate < 1
        · go_enter Try.func31, Try.ntmps31
          go_wp2_with (fail)
          go_ret2
          exact ⟨rfl, Below.refl _ _⟩
        · have k4 : 1099511627776 < rate := by omega
          go_enter Try.func31, Try.ntmps31
          go_wp2_with (fail)
          go_ret2
          exact ⟨rfl, Below.refl _ _⟩

theorem next_any (b : Nat) (s : PaceS) (w : World) (h : PaceAt w b s) :
    Calls Try.prog 32 #[.pointer (some ⟨b, 0, none⟩)] w fun e w' => e = .returned (.tuple #[.int .i64 s.t, .bool s.some]) ∧ ∃ m, w' = w.drewN m := by
  obtain ⟨t, so, c, q, n⟩ := s
  have c0 := h.c0
  have c1 := h.c1
  dsimp only at c0 c1 ⊢
  clear h
  go_enter Try.func32, Try.ntmps32
  go_wp2_with (fail)
  go_quiet (fail)
  go_wp2_with (fail)
  go_ret2
  exact ⟨rfl, _, rfl⟩

theorem prate_any (b : Nat) (s : PaceS) (w : World) (h : PaceAt w b s) :
    Calls Try.prog 14 #[.pointer (some ⟨b, 0, none⟩)] w fun e w' => e = .returned (.int .i64 s.count) ∧ w = w' := by
  have c2 := h.c2
  obtain ⟨t, so, c, q, n⟩ := s
  dsimp only at c2 ⊢
  clear h
  go_enter Try.func14, Try.ntmps14
  go_wp2_with (fail)
  go_ret
  exact ⟨rfl, rfl⟩
theorem prate_nil (w : World) :
    Calls Try.prog 14 #[.pointer none] w fun e w' => e = .returned (.int .i64 0) ∧ w = w' := by
  go_enter Try.func14, Try.ntmps14
  go_wp2_with (fail)
  go_ret
  exact ⟨rfl, rfl⟩

theorem goes_any (x : Int) (w : World) :
    Calls Try.prog 15 #[.int .i64 x] w fun e w' => e = .returned (.func (.func 34) #[] #[.pointer (some ⟨w.heap.size, 0, none⟩)]) ∧ w' = w.alloc (.cells #[.int .i64 x] 3) := by
  go_enter Try.func15, Try.ntmps15
  go_wp2_with (fail)
  go_ret
  exact ⟨rfl, rfl⟩

/-- What the closure writes: the time that was noted, and when it went if it did. -/
theorem goes1_any (b g : Nat) (s : PaceS) (x go : Int) (ok : Bool) (w : World) (h : PaceAt w b s) (hc : w.cell? ⟨g, 0, none⟩ = some (.int .i64 x)) :
    Calls Try.prog 34 #[.pointer (some ⟨b, 0, none⟩), .int .i64 go, .bool ok, .pointer (some ⟨g, 0, none⟩)] w fun e w' => e = .returned (.tuple #[]) ∧ PaceAt w' b (if ok then { s with t := go, some := true, noted := x } else { s with noted := x }) ∧ w.grownBy w' (some b) := by
  obtain ⟨t, so, c, q, n⟩ := s
  obtain ⟨c0, c1, c2, c3, c4, fr, lt⟩ := h
  dsimp only at c0 c1 c2 c3 c4
  have f0 := fr 0
  have f1 := fr 1
  have f4 := fr 4
  cases ok
  · go_enter Try.func34, Try.ntmps34
    go_wp2_with (fail)
    go_end0
    exact ⟨rfl, ⟨by simp [go_sem, c0, c1, c2, c3, c4], by simp [go_sem, c0, c1, c2, c3, c4], by simp [go_sem, c0, c1, c2, c3, c4], by simp [go_sem, c0, c1, c2, c3, c4], by simp [go_sem, c0, c1, c2, c3, c4], fun o => by simp [go_sem, fr], by simp [go_sem, lt]⟩, grown_set (grown_below (Below.refl _ _) _) _ _⟩
  · go_enter Try.func34, Try.ntmps34
    go_wp2_with (fail)
    go_end0
    exact ⟨rfl, ⟨by simp [go_sem, c0, c1, c2, c3, c4], by simp [go_sem, c0, c1, c2, c3, c4], by simp [go_sem, c0, c1, c2, c3, c4], by simp [go_sem, c0, c1, c2, c3, c4], by simp [go_sem, c0, c1, c2, c3, c4], fun o => by simp [go_sem, fr], by simp [go_sem, lt]⟩, grown_set (grown_set (grown_set (grown_below (Below.refl _ _) _) _ _) _ _) _ _⟩

set_option maxHeartbeats 3200000 in
theorem asksgo_any (b : Nat) (g : Nat) (s : PaceS) (time count rate : Int) (w : World) (h : PaceAt w b s) (hok : PaceOk s) (a0 : -9223372036854775808 ≤ time) (a1 : time ≤ 9223372036854775807) (b0 : -9223372036854775808 ≤ count) (b1 : count ≤ 9223372036854775807) (d0 : -9223372036854775808 ≤ rate) (d1 : rate ≤ 9223372036854775807) (hg : w.cell? ⟨g, 0, none⟩ = some (.int .i64 time)) (hgl : g < w.heap.size) :
    Calls Try.prog 13 #[.pointer (some ⟨b, 0, none⟩), .int .i64 time, .int .i64 count, .int .i64 rate, .func (.func 34) #[] #[.pointer (some ⟨g, 0, none⟩)]] w fun e w' => e = .returned (.tuple #[.int .i64 (askW s time count rate), .bool (askB s time count rate), .int .i64 (askE s time count rate)]) ∧ PaceAt w' b (gone s time count rate) ∧ w.grownBy w' (some b) := by
  by_cases ha : asked time count rate
  · have hbd := goesAt_bd hok ha
    obtain ⟨h1, h2, h3, h4⟩ := ha
    have eN := Lib.hid (show costN count rate = cst count rate by unfold costN; rw [if_pos ⟨h3, h4⟩])
    have eE := Lib.hid (show costE count rate = 0 by unfold costE; rw [if_pos ⟨h3, h4⟩])
    have cb := cst_bd h3 h4
    by_cases hn : time < s.noted
    · have e1 : askE s time count rate = 7 := by unfold askE; rw [if_pos ⟨h1, h2, h3, h4⟩, if_pos hn]
      have e2 : askB s time count rate = false := by simp [askB, e1]
      have e3 : askW s time count rate = 0 := by simp [askW, e2]
      have e4 : gone s time count rate = s := by unfold gone; rw [if_neg (by rw [e1]; decide)]
      rw [e1, e2, e3, e4]
      clear e1 e2 e3 e4 hbd
      obtain ⟨t, so, c, q, n⟩ := s
      have HP := Lib.hid h
      have c4 := h.c4
      have lt := h.lt
      dsimp only at c4 hn
      clear h h3 h4 hok
      go_enter Try.func13, Try.ntmps13
      go_wp2_with (fail)
      refine (cost_any count rate _ b0 b1 d0 d1).mono ?_
      rintro e w1 ⟨rfl, hb1⟩
      rw [eN.out, eE.out]
      obtain ⟨hc1, hf1⟩ := bcell hb1
      go_wp2_with (fail)
      go_ret3
      exact ⟨rfl, HP.out.below hb1, grown_below hb1 _⟩
    · have e1 : askE s time count rate = 0 := by unfold askE; rw [if_pos ⟨h1, h2, h3, h4⟩, if_neg hn]
      have e2 : askB s time count rate = goesB s time count rate := by simp [askB, e1]
      have e3 : askW s time count rate = if goesB s time count rate then goesAt s time (cst count rate) - time else 0 := by simp [askW, e2]
      have e4 : gone s time count rate = if goesB s time count rate then { s with t := goesAt s time (cst count rate), some := true, noted := time } else { s with noted := time } := by unfold gone; rw [if_pos e1]
      rw [e1, e2, e3, e4]
      have hgb := Lib.hid (show goesB s time count rate = decide (goesAt s time (cst count rate) - time ≤ s.queue) from rfl)
      clear e1 e2 e3 e4
      obtain ⟨g0, g1⟩ := hbd
      have q0 := hok.q1
      have q1 := hok.q2
      have t0 := hok.t1
      have t1 := hok.t2
      obtain ⟨k0, k1⟩ := cb
      clear hok h3 h4
      obtain ⟨t, so, c, q, n⟩ := s
      dsimp only at hn q0 q1 t0 t1
      have HP := Lib.hid h
      have lt := h.lt
      obtain ⟨GA, hGA⟩ : ∃ GA : Int, goesAt ⟨t, so, c, q, n⟩ time (cst count rate) = GA := ⟨_, rfl⟩
      have hGA' := Lib.hid (show GA = if so then (if time < t + cst count rate then t + cst count rate else time) else time by rw [← hGA]; rfl)
      rw [hGA] at g0 g1 hgb ⊢
      dsimp only at hgb
      generalize goesB ⟨t, so, c, q, n⟩ time count rate = OK at *
      generalize cst count rate = C at *
      clear h hGA
      have sides : (so = false ∧ time = GA) ∨ (so = true ∧ time < t + C ∧ t + C = GA) ∨ (so = true ∧ ¬ time < t + C ∧ time = GA) := by
        have := hGA'.out
        cases so
        · left; exact ⟨rfl, by simpa using this.symm⟩
        · right
          by_cases hh : time < t + C
          · left; exact ⟨rfl, hh, by simpa [hh] using this.symm⟩
          · right; exact ⟨rfl, hh, by simpa [hh] using this.symm⟩
      have oks : (OK = true ∧ decide (GA - time ≤ q) = true) ∨ (OK = false ∧ ¬ GA - time ≤ q ∧ decide (GA - time ≤ q) = false) := by
        have := hgb.out
        by_cases hh : GA - time ≤ q
        · left; exact ⟨by simpa [hh] using this, by simpa using hh⟩
        · right; exact ⟨by simpa [hh] using this, hh, by simpa using hh⟩
      clear hGA' hgb
      rcases sides with ⟨rfl, rfl⟩ | ⟨rfl, hlt, rfl⟩ | ⟨rfl, hlt, rfl⟩ <;> rcases oks with ⟨rfl, hq⟩ | ⟨rfl, hq', hq⟩
      iterate 1
        · go_enter Try.func13, Try.ntmps13
          go_wp2_with (fail)
          refine (cost_any count rate _ b0 b1 d0 d1).mono ?_
          rintro e w1 ⟨rfl, hb1⟩
          rw [eN.out, eE.out]
          have HP1 := Lib.hid (HP.out.below hb1)
          have c4 := HP1.out.c4
          have c3 := HP1.out.c3
          have lt1 := HP1.out.lt
          dsimp only at c4 c3
          go_wp2_with (fail)
          refine (next_any b _ _ HP1.out).mono ?_
          rintro e w2 ⟨rfl, m, rfl⟩
          dsimp only
          go_wp2_with (fail)
          have B2 : Below w.heap.size w (w1.drewN m) := below_drewN hb1 m
          refine (goes1_any b g _ time _ _ _ (HP.out.below B2) ((B2.cell (p := ⟨g, 0, none⟩) hgl).trans hg)).mono ?_
          rintro e w4 ⟨rfl, hp4, hg4⟩
          go_wp2_with (fail)
          go_ret3
          exact ⟨rfl, by simpa using hp4, grown_trans (grown_below B2 _) hg4⟩
      · exfalso; omega
      iterate 2
        · have hmx : max time (t + C) = t + C := by omega
          have hk2 := Lib.hid (show keepSum [t, C] = t + C by rw [keepSum_two _ _ ⟨by omega, by omega⟩, keep_fit (fitB_yes (by omega) (by omega))])
          go_enter Try.func13, Try.ntmps13
          go_wp2_with (fail)
          refine (cost_any count rate _ b0 b1 d0 d1).mono ?_
          rintro e w1 ⟨rfl, hb1⟩
          rw [eN.out, eE.out]
          have HP1 := Lib.hid (HP.out.below hb1)
          have c4 := HP1.out.c4
          have c3 := HP1.out.c3
          have lt1 := HP1.out.lt
          dsimp only at c4 c3
          go_wp2_with (fail)
          refine (next_any b _ _ HP1.out).mono ?_
          rintro e w2 ⟨rfl, m, rfl⟩
          dsimp only
          go_wp2_with (fail)
          refine (plusl_any _ 2 2 [t, C] _ (by intro x hx; simp at hx; rcases hx with rfl | rfl <;> omega) rfl (by omega) (two_at _ t C)).mono ?_
          rintro e w3 ⟨rfl, rfl⟩
          rw [hk2.out]
          have c3' : ((w1.drewN m).alloc (.cells #[.int .i64 t, .int .i64 C] 3)).cell? ⟨b, 3, none⟩ = some (.int .i64 q) := by rw [World.cell?_alloc_lt (w := w1.drewN m) (h := by simpa using lt1)]; exact c3
          go_wp2_with (fail)
          have B2 : Below w.heap.size w ((w1.drewN m).alloc (.cells #[.int .i64 t, .int .i64 C] 3)) := (below_drewN hb1 m).alloc (by have := hb1.size; simp; omega) _
          refine (goes1_any b g _ time _ _ _ (HP.out.below B2) ((B2.cell (p := ⟨g, 0, none⟩) hgl).trans hg)).mono ?_
          rintro e w4 ⟨rfl, hp4, hg4⟩
          go_wp2_with (fail)
          go_ret3
          exact ⟨rfl, by simpa using hp4, grown_trans (grown_below B2 _) hg4⟩
      iterate 1
        · have hmx : max time (t + C) = time := by omega
          have hk2 := Lib.hid (show keepSum [t, C] = t + C by rw [keepSum_two _ _ ⟨by omega, by omega⟩, keep_fit (fitB_yes (by omega) (by omega))])
          go_enter Try.func13, Try.ntmps13
          go_wp2_with (fail)
          refine (cost_any count rate _ b0 b1 d0 d1).mono ?_
          rintro e w1 ⟨rfl, hb1⟩
          rw [eN.out, eE.out]
          have HP1 := Lib.hid (HP.out.below hb1)
          have c4 := HP1.out.c4
          have c3 := HP1.out.c3
          have lt1 := HP1.out.lt
          dsimp only at c4 c3
          go_wp2_with (fail)
          refine (next_any b _ _ HP1.out).mono ?_
          rintro e w2 ⟨rfl, m, rfl⟩
          dsimp only
          go_wp2_with (fail)
          refine (plusl_any _ 2 2 [t, C] _ (by intro x hx; simp at hx; rcases hx with rfl | rfl <;> omega) rfl (by omega) (two_at _ t C)).mono ?_
          rintro e w3 ⟨rfl, rfl⟩
          rw [hk2.out]
          have c3' : ((w1.drewN m).alloc (.cells #[.int .i64 t, .int .i64 C] 3)).cell? ⟨b, 3, none⟩ = some (.int .i64 q) := by rw [World.cell?_alloc_lt (w := w1.drewN m) (h := by simpa using lt1)]; exact c3
          go_wp2_with (fail)
          have B2 : Below w.heap.size w ((w1.drewN m).alloc (.cells #[.int .i64 t, .int .i64 C] 3)) := (below_drewN hb1 m).alloc (by have := hb1.size; simp; omega) _
          refine (goes1_any b g _ time _ _ _ (HP.out.below B2) ((B2.cell (p := ⟨g, 0, none⟩) hgl).trans hg)).mono ?_
          rintro e w4 ⟨rfl, hp4, hg4⟩
          go_wp2_with (fail)
          go_ret3
          exact ⟨rfl, by simpa using hp4, grown_trans (grown_below B2 _) hg4⟩
      · exfalso; omega
  · have e1 : askE s time count rate = 2 := by unfold askE; rw [if_neg ha]
    have e2 : askB s time count rate = false := by simp [askB, e1]
    have e3 : askW s time count rate = 0 := by simp [askW, e2]
    have e4 : gone s time count rate = s := by unfold gone; rw [if_neg (by rw [e1]; decide)]
    rw [e1, e2, e3, e4]
    clear e1 e2 e3 e4
    have HP := Lib.hid h
    have lt := h.lt
    have sides : time < 0 ∨ (¬ time < 0 ∧ 1152921504606846976 < time) ∨ (¬ time < 0 ∧ ¬ 1152921504606846976 < time ∧ costE count rate = 2) := by
      by_cases p1 : time < 0
      · left; exact p1
      · right
        by_cases p2 : 1152921504606846976 < time
        · left; exact ⟨p1, p2⟩
        · right
          refine ⟨p1, p2, ?_⟩
          unfold costE
          rw [if_neg]
          intro hh
          exact ha ⟨by omega, by omega, hh.1, hh.2⟩
    clear h ha hok
    rcases sides with p1 | ⟨p1, p2⟩ | ⟨p1, p2, p3⟩
    · go_enter Try.func13, Try.ntmps13
      go_wp2_with (fail)
      refine (cost_any count rate _ b0 b1 d0 d1).mono ?_
      rintro e w1 ⟨rfl, hb1⟩
      go_wp2_with (fail)
      go_ret3
      exact ⟨rfl, HP.out.below hb1, grown_below hb1 _⟩
    · go_enter Try.func13, Try.ntmps13
      go_wp2_with (fail)
      refine (cost_any count rate _ b0 b1 d0 d1).mono ?_
      rintro e w1 ⟨rfl, hb1⟩
      go_wp2_with (fail)
      go_ret3
      exact ⟨rfl, HP.out.below hb1, grown_below hb1 _⟩
    · have P3 := Lib.hid p3
      clear p3
      go_enter Try.func13, Try.ntmps13
      go_wp2_with (fail)
      refine (cost_any count rate _ b0 b1 d0 d1).mono ?_
      rintro e w1 ⟨rfl, hb1⟩
      rw [P3.out]
      go_wp2_with (fail)
      go_ret3
      exact ⟨rfl, HP.out.below hb1, grown_below hb1 _⟩

theorem asks_nil (time count rate : Int) (v : Value) (w : World) :
    Calls Try.prog 13 #[.pointer none, .int .i64 time, .int .i64 count, .int .i64 rate, v] w fun e w' => e = .returned (.tuple #[.int .i64 0, .bool false, .int .i64 1]) ∧ w = w' := by
  go_enter Try.func13, Try.ntmps13
  go_wp2_with (fail)
  go_ret3
  exact ⟨rfl, rfl⟩
end Go.Proofs.Yteghiappanpogaa
