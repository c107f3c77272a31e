/- The laws of the layer pacing: PacingPlays: a deed on both. -/
import Derived.Test.YtfednlooepicaaaPacU
import Derived.Test.YtfednlooepicaaaLawPacM
namespace Go.Proofs.Ytfednlooepicaaa
open Go.RowKit
set_option linter.unusedVariables false
set_option linter.unusedSimpArgs false

/-- Two blocks alone were written, of those that were there. -/
structure Grown2 (w w' : World) (b c : Nat) : Prop where
  os : w'.os = w.os
  tape : w'.tape = w.tape
  output : w'.output = w.output
  size : w.heap.size ≤ w'.heap.size
  block : ∀ k, k < w.heap.size → k ≠ b → k ≠ c → w'.heap[k]? = w.heap[k]?
theorem Grown2.refl (w : World) (b c : Nat) : Grown2 w w b c := ⟨rfl, rfl, rfl, Nat.le_refl _, fun _ _ _ _ => rfl⟩
theorem Grown2.trans {w w1 w2 : World} {b c : Nat} (h : Grown2 w w1 b c) (k : Grown2 w1 w2 b c) : Grown2 w w2 b c :=
  ⟨k.os.trans h.os, k.tape.trans h.tape, k.output.trans h.output, Nat.le_trans h.size k.size, fun i hi h1 h2 => (k.block i (Nat.lt_of_lt_of_le hi h.size) h1 h2).trans (h.block i hi h1 h2)⟩
theorem Grown2.below {w w1 w2 : World} {b c : Nat} (h : Grown2 w w1 b c) (k : Below w1.heap.size w1 w2) : Grown2 w w2 b c :=
  h.trans ⟨k.os, k.tape, k.output, k.size, fun i hi _ _ => k.block i hi⟩
theorem Grown2.left {w w1 w2 : World} {b c : Nat} (h : Grown2 w w1 b c) (k : w1.grownBy w2 (some b)) : Grown2 w w2 b c :=
  h.trans ⟨k.os, k.tape, k.output, k.size, fun i hi h1 _ => k.block i hi (fun e => h1 (by injection e))⟩
theorem Grown2.right {w w1 w2 : World} {b c : Nat} (h : Grown2 w w1 b c) (k : w1.grownBy w2 (some c)) : Grown2 w w2 b c :=
  h.trans ⟨k.os, k.tape, k.output, k.size, fun i hi _ h2 => k.block i hi (fun e => h2 (by injection e))⟩
theorem PaceAt.two {w w' : World} {g b c : Nat} {s : PaceS} (h : PaceAt w g s) (k : Grown2 w w' b c) (h1 : g ≠ b) (h2 : g ≠ c) : PaceAt w' g s := h.of_block (k.block g h.lt h1 h2) k.size
theorem RPaceAt.two {w w' : World} {g b c : Nat} {s : PaceS} (h : RPaceAt w g s) (k : Grown2 w w' b c) (h1 : g ≠ b) (h2 : g ≠ c) : RPaceAt w' g s := h.of_block (k.block g h.lt h1 h2) k.size

def ZeroOk (s : PaceS) : Prop := s.some = false → s.t = 0
theorem gone_zero {s : PaceS} (h : ZeroOk s) (time count rate : Int) : ZeroOk (gone s time count rate) := by
  unfold ZeroOk gone at *
  split
  · split
    · intro hh; exact absurd hh (by simp)
    · exact h
  · exact h

/-- Both stand alike. -/
structure BothAt (w : World) (b c : Nat) (s : PaceS) : Prop where
  p : PaceAt w b s
  r : RPaceAt w c s
  ok : PaceOk s
  z : ZeroOk s

def Did (w : World) (b c : Nat) (e : Ending) (w' : World) : Prop := e = .returned (.bool true) ∧ ∃ s', BothAt w' b c s' ∧ Grown2 w w' b c

set_option maxHeartbeats 1600000 in
theorem do_any (b c : Nat) (s : PaceS) (kind time count rate : Int) (w : World) (hb : BothAt w b c s) (hne : b ≠ c) (a0 : -9223372036854775808 ≤ time) (a1 : time ≤ 9223372036854775807) (b0 : -9223372036854775808 ≤ count) (b1 : count ≤ 9223372036854775807) (d0 : -9223372036854775808 ≤ rate) (d1 : rate ≤ 9223372036854775807) :
    Calls Try.prog 18 #[.pointer (some ⟨b, 0, none⟩), .pointer (some ⟨c, 0, none⟩), .agg #[.int .i64 kind, .int .i64 time, .int .i64 count, .int .i64 rate]] w (Did w b c) := by
  have HB := Lib.hid hb
  clear hb
  by_cases k0 : kind = 0
  · subst k0
    have hl := Lib.hid (fun w h => look_any b s time count w h HB.out.ok a0 a1 b0 b1)
    have hr := Lib.hid (fun w h => rlook_any c s time count w h HB.out.ok a0 a1 b0 b1)
    have hn := Lib.hid (fun w h => pnext_any b s w h)
    have hm := Lib.hid (fun w h => rnext_any c s w h HB.out.z)
    generalize askW s time count s.count = AW at *
    generalize askB s time count s.count = AB at *
    generalize askE s time count s.count = AE at *
    go_enter Try.func18, Try.ntmps18
    go_wp2_with (fail)
    have B1 := fun o => (Below.refl w.heap.size w).alloc (Nat.le_refl _) o
    have lb := HB.out.p.lt
    have lc := HB.out.r.lt
    refine (hl.out _ (HB.out.p.below (B1 _))).mono ?_
    rintro e w1 ⟨rfl, hb1⟩
    have z1 := hb1.size
    simp at z1
    have d1 : w1.cell? ⟨w.heap.size, 1, none⟩ = some (.int .i64 time) := (hb1.cell (p := ⟨w.heap.size, 1, none⟩) (by simp)).trans (by simp [go_sem])
    have d2 : w1.cell? ⟨w.heap.size, 2, none⟩ = some (.int .i64 count) := (hb1.cell (p := ⟨w.heap.size, 2, none⟩) (by simp)).trans (by simp [go_sem])
    have L1 : Below w.heap.size w w1 := (B1 _).trans (hb1.mono (by simp))
    go_wp2_with (fail)
    refine (hr.out _ (HB.out.r.below L1)).mono ?_
    rintro e w2 ⟨rfl, hb2⟩
    have L2 := L1.trans (hb2.mono L1.size)
    clear d1 d2
    go_wp2_with (fail)
    refine (hn.out _ (HB.out.p.below L2)).mono ?_
    rintro e w3 ⟨rfl, m, rfl⟩
    have L3 := below_drewN L2 m
    go_wp2_with (fail)
    refine (hm.out _ (HB.out.r.below L3)).mono ?_
    rintro e w4 ⟨rfl, hb4⟩
    have L4 := L3.trans (hb4.mono L3.size)
    go_wp2_with (fail)
    go_ret
    exact ⟨rfl, s, ⟨HB.out.p.below L4, HB.out.r.below L4, HB.out.ok, HB.out.z⟩, (Grown2.refl _ _ _).below L4⟩
  · by_cases k1 : kind = 1
    · subst k1
      clear k0
      have hz' := gone_zero HB.out.z time count s.count
      have hok' := gone_ok HB.out.ok time count s.count
      have hl := Lib.hid (fun w h => go_any b s time count w h HB.out.ok a0 a1 b0 b1)
      have hr := Lib.hid (fun w h => rgo_any c s time count w h HB.out.ok a0 a1 b0 b1)
      generalize askW s time count s.count = AW at *
      generalize askB s time count s.count = AB at *
      generalize askE s time count s.count = AE at *
      generalize gone s time count s.count = s' at *
      have hn := Lib.hid (fun w h => pnext_any b s' w h)
      have hm := Lib.hid (fun w h => rnext_any c s' w h hz')
      have Hz := Lib.hid hz'
      have Hok := Lib.hid hok'
      clear hz' hok'
      go_enter Try.func18, Try.ntmps18
      go_wp2_with (fail)
      have B1 := fun o => (Below.refl w.heap.size w).alloc (Nat.le_refl _) o
      have lb := HB.out.p.lt
      have lc := HB.out.r.lt
      refine (hl.out _ (HB.out.p.below (B1 _))).mono ?_
      rintro e w1 ⟨rfl, hp1, hg1⟩
      have P1 := Lib.hid hp1
      have z1 := hg1.size
      simp at z1
      have hblk := hg1.block w.heap.size (by simp) (by simp; omega)
      have d1 : w1.cell? ⟨w.heap.size, 1, none⟩ = some (.int .i64 time) := (World.cell?_of_block (a := ⟨w.heap.size, 1, none⟩) hblk).trans (by simp [go_sem])
      have d2 : w1.cell? ⟨w.heap.size, 2, none⟩ = some (.int .i64 count) := (World.cell?_of_block (a := ⟨w.heap.size, 2, none⟩) hblk).trans (by simp [go_sem])
      have G1 : Grown2 w w1 b c := ((Grown2.refl _ _ _).below (B1 _)).left hg1
      have R1 := Lib.hid ((HB.out.r.below (B1 _)).grown hg1 (by simp; omega))
      clear hp1 hg1 hblk
      go_wp2_with (fail)
      refine (hr.out _ R1.out).mono ?_
      rintro e w2 ⟨rfl, hr2, hg2⟩
      have R2 := Lib.hid hr2
      have P2 := Lib.hid (P1.out.grown hg2 (by simp; omega))
      have G2 := G1.right hg2
      clear d1 d2 hr2 hg2
      go_wp2_with (fail)
      refine (hn.out _ P2.out).mono ?_
      rintro e w3 ⟨rfl, m, rfl⟩
      have L3 := below_drewN (Below.refl w2.heap.size w2) m
      go_wp2_with (fail)
      refine (hm.out _ (R2.out.below L3)).mono ?_
      rintro e w4 ⟨rfl, hb4⟩
      have L4 := L3.trans (hb4.mono L3.size)
      go_wp2_with (fail)
      go_ret
      exact ⟨rfl, s', ⟨P2.out.below L4, R2.out.below L4, Hok.out, Hz.out⟩, G2.below L4⟩
    · have hz' := gone_zero HB.out.z time count rate
      have hok' := gone_ok HB.out.ok time count rate
      have hl := Lib.hid (fun w h => at_any b s time count rate w h HB.out.ok a0 a1 b0 b1 d0 d1)
      have hr := Lib.hid (fun w h => rat_any c s time count rate w h HB.out.ok a0 a1 b0 b1 d0 d1)
      generalize askW s time count rate = AW at *
      generalize askB s time count rate = AB at *
      generalize askE s time count rate = AE at *
      generalize gone s time count rate = s' at *
      have hn := Lib.hid (fun w h => pnext_any b s' w h)
      have hm := Lib.hid (fun w h => rnext_any c s' w h hz')
      have Hz := Lib.hid hz'
      have Hok := Lib.hid hok'
      clear hz' hok'
      go_enter Try.func18, Try.ntmps18
      go_wp2_with (fail)
      have B1 := fun o => (Below.refl w.heap.size w).alloc (Nat.le_refl _) o
      have lb := HB.out.p.lt
      have lc := HB.out.r.lt
      refine (hl.out _ (HB.out.p.below (B1 _))).mono ?_
      rintro e w1 ⟨rfl, hp1, hg1⟩
      have P1 := Lib.hid hp1
      have z1 := hg1.size
      simp at z1
      have hblk := hg1.block w.heap.size (by simp) (by simp; omega)
      have d1 : w1.cell? ⟨w.heap.size, 1, none⟩ = some (.int .i64 time) := (World.cell?_of_block (a := ⟨w.heap.size, 1, none⟩) hblk).trans (by simp [go_sem])
      have d2 : w1.cell? ⟨w.heap.size, 2, none⟩ = some (.int .i64 count) := (World.cell?_of_block (a := ⟨w.heap.size, 2, none⟩) hblk).trans (by simp [go_sem])
      have d3 : w1.cell? ⟨w.heap.size, 3, none⟩ = some (.int .i64 rate) := (World.cell?_of_block (a := ⟨w.heap.size, 3, none⟩) hblk).trans (by simp [go_sem])
      have G1 : Grown2 w w1 b c := ((Grown2.refl _ _ _).below (B1 _)).left hg1
      have R1 := Lib.hid ((HB.out.r.below (B1 _)).grown hg1 (by simp; omega))
      clear hp1 hg1 hblk
      go_wp2_with (fail)
      refine (hr.out _ R1.out).mono ?_
      rintro e w2 ⟨rfl, hr2, hg2⟩
      have R2 := Lib.hid hr2
      have P2 := Lib.hid (P1.out.grown hg2 (by simp; omega))
      have G2 := G1.right hg2
      clear d1 d2 d3 hr2 hg2
      go_wp2_with (fail)
      refine (hn.out _ P2.out).mono ?_
      rintro e w3 ⟨rfl, m, rfl⟩
      have L3 := below_drewN (Below.refl w2.heap.size w2) m
      go_wp2_with (fail)
      refine (hm.out _ (R2.out.below L3)).mono ?_
      rintro e w4 ⟨rfl, hb4⟩
      have L4 := L3.trans (hb4.mono L3.size)
      go_wp2_with (fail)
      go_ret
      exact ⟨rfl, s', ⟨P2.out.below L4, R2.out.below L4, Hok.out, Hz.out⟩, G2.below L4⟩

theorem do_nil (kind time count rate : Int) (w : World) :
    Calls Try.prog 18 #[.pointer none, .pointer none, .agg #[.int .i64 kind, .int .i64 time, .int .i64 count, .int .i64 rate]] w fun e w' => e = .returned (.bool true) ∧ Below w.heap.size w w' := by
  by_cases k0 : kind = 0
  · subst k0
    go_enter Try.func18, Try.ntmps18
    go_wp2_with (fail)
    have B1 := fun o => (Below.refl w.heap.size w).alloc (Nat.le_refl _) o
    refine (look_nil _ _ _).mono ?_
    rintro e w1 ⟨rfl, hb1⟩
    have d1 : w1.cell? ⟨w.heap.size, 1, none⟩ = some (.int .i64 time) := (hb1.cell (p := ⟨w.heap.size, 1, none⟩) (by simp)).trans (by simp [go_sem])
    have d2 : w1.cell? ⟨w.heap.size, 2, none⟩ = some (.int .i64 count) := (hb1.cell (p := ⟨w.heap.size, 2, none⟩) (by simp)).trans (by simp [go_sem])
    have L1 : Below w.heap.size w w1 := (B1 _).trans (hb1.mono (by simp))
    go_wp2_with (fail)
    refine (rlook_nil _ _ _).mono ?_
    rintro e w2 ⟨rfl, hb2⟩
    have L2 := L1.trans (hb2.mono L1.size)
    clear d1 d2
    go_wp2_with (fail)
    refine (pnext_nil _).mono ?_
    rintro e w3 ⟨rfl, rfl⟩
    go_wp2_with (fail)
    refine (rnext_nil _).mono ?_
    rintro e w3 ⟨rfl, rfl⟩
    go_wp2_with (fail)
    go_ret
    exact ⟨rfl, L2⟩
  · by_cases k1 : kind = 1
    · subst k1
      clear k0
      go_enter Try.func18, Try.ntmps18
      go_wp2_with (fail)
      have B1 := fun o => (Below.refl w.heap.size w).alloc (Nat.le_refl _) o
      refine (go_nil _ _ _).mono ?_
      rintro e w1 ⟨rfl, hb1⟩
      have d1 : w1.cell? ⟨w.heap.size, 1, none⟩ = some (.int .i64 time) := (hb1.cell (p := ⟨w.heap.size, 1, none⟩) (by simp)).trans (by simp [go_sem])
      have d2 : w1.cell? ⟨w.heap.size, 2, none⟩ = some (.int .i64 count) := (hb1.cell (p := ⟨w.heap.size, 2, none⟩) (by simp)).trans (by simp [go_sem])
      have L1 : Below w.heap.size w w1 := (B1 _).trans (hb1.mono (by simp))
      go_wp2_with (fail)
      refine (rgo_nil _ _ _).mono ?_
      rintro e w2 ⟨rfl, hb2⟩
      have L2 := L1.trans (hb2.mono L1.size)
      clear d1 d2
      go_wp2_with (fail)
      refine (pnext_nil _).mono ?_
      rintro e w3 ⟨rfl, rfl⟩
      go_wp2_with (fail)
      refine (rnext_nil _).mono ?_
      rintro e w3 ⟨rfl, rfl⟩
      go_wp2_with (fail)
      go_ret
      exact ⟨rfl, L2⟩
    · go_enter Try.func18, Try.ntmps18
      go_wp2_with (fail)
      have B1 := fun o => (Below.refl w.heap.size w).alloc (Nat.le_refl _) o
      refine (at_nil _ _ _ _).mono ?_
      rintro e w1 ⟨rfl, hb1⟩
      have d1 : w1.cell? ⟨w.heap.size, 1, none⟩ = some (.int .i64 time) := (hb1.cell (p := ⟨w.heap.size, 1, none⟩) (by simp)).trans (by simp [go_sem])
      have d2 : w1.cell? ⟨w.heap.size, 2, none⟩ = some (.int .i64 count) := (hb1.cell (p := ⟨w.heap.size, 2, none⟩) (by simp)).trans (by simp [go_sem])
      have d3 : w1.cell? ⟨w.heap.size, 3, none⟩ = some (.int .i64 rate) := (hb1.cell (p := ⟨w.heap.size, 3, none⟩) (by simp)).trans (by simp [go_sem])
      have L1 : Below w.heap.size w w1 := (B1 _).trans (hb1.mono (by simp))
      go_wp2_with (fail)
      refine (rat_nil _ _ _ _).mono ?_
      rintro e w2 ⟨rfl, hb2⟩
      have L2 := L1.trans (hb2.mono L1.size)
      clear d1 d2 d3
      go_wp2_with (fail)
      refine (pnext_nil _).mono ?_
      rintro e w3 ⟨rfl, rfl⟩
      go_wp2_with (fail)
      refine (rnext_nil _).mono ?_
      rintro e w3 ⟨rfl, rfl⟩
      go_wp2_with (fail)
      go_ret
      exact ⟨rfl, L2⟩
end Go.Proofs.Ytfednlooepicaaa
