/- The laws of the layer warmup: WarmRuns: a deed on both. -/
import Derived.Test.YtfcmacibblkdkaaWarmU
namespace Go.Proofs.Ytfcmacibblkdkaa
open Go.RowKit
set_option linter.unusedVariables false
set_option linter.unusedSimpArgs false

def Did (w : World) (b c : Nat) (e : Ending) (w' : World) : Prop := e = .returned (.bool true) ∧ ∃ s', BothAt w' b c s' ∧ Grown2 w w' b c

set_option maxHeartbeats 6400000 in
set_option maxRecDepth 100000 in
theorem wdo_any (b c : Nat) (s : WarmS) (kind x past now n : Int) (w : World) (hb : BothAt w b c s) (hne : b ≠ c) (hp : inI past) (hn : inI now) :
    Calls Try.prog 21 #[.agg #[.pointer (some ⟨b, 0, none⟩), .pointer (some ⟨c, 0, none⟩)], .agg #[.int .i64 kind, .int .i64 x, .int .i64 past, .int .i64 now, .int .i64 n]] w (Did w b c) := by
  have HB := Lib.hid hb
  have lb := hb.p.lt
  have lc := hb.r.lt
  clear hb
  obtain ⟨W0, hW0⟩ : ∃ v, (w.alloc (.cells #[.pointer (some ⟨b, 0, none⟩), .pointer (some ⟨c, 0, none⟩)] 49)).alloc (.cells #[.int .i64 kind, .int .i64 x, .int .i64 past, .int .i64 now, .int .i64 n] 34) = v := ⟨_, rfl⟩
  have B0 : Below w.heap.size w W0 := by rw [← hW0]; exact ((Below.refl _ _).alloc (Nat.le_refl _) _).alloc (by simp) _
  have z0 : W0.heap.size = w.heap.size + 2 := by rw [← hW0]; simp
  have LOC := Lib.hid (fun (wx : World) (g : Grown2 W0 wx b c) => (show (wx.cell? ⟨w.heap.size, 0, none⟩ = some (.pointer (some ⟨b, 0, none⟩)) ∧ wx.cell? ⟨w.heap.size, 1, none⟩ = some (.pointer (some ⟨c, 0, none⟩))) ∧ wx.cell? ⟨w.heap.size + 1, 0, none⟩ = some (.int .i64 kind) ∧ wx.cell? ⟨w.heap.size + 1, 1, none⟩ = some (.int .i64 x) ∧ wx.cell? ⟨w.heap.size + 1, 2, none⟩ = some (.int .i64 past) ∧ wx.cell? ⟨w.heap.size + 1, 3, none⟩ = some (.int .i64 now) ∧ wx.cell? ⟨w.heap.size + 1, 4, none⟩ = some (.int .i64 n) from by
    have g1 := g.block w.heap.size (by omega) (by omega) (by omega)
    have g2 := g.block (w.heap.size + 1) (by omega) (by omega) (by omega)
    refine ⟨⟨(World.cell?_of_block (a := ⟨w.heap.size, 0, none⟩) g1).trans ?_, (World.cell?_of_block (a := ⟨w.heap.size, 1, none⟩) g1).trans ?_⟩, (World.cell?_of_block (a := ⟨w.heap.size + 1, 0, none⟩) g2).trans ?_, (World.cell?_of_block (a := ⟨w.heap.size + 1, 1, none⟩) g2).trans ?_, (World.cell?_of_block (a := ⟨w.heap.size + 1, 2, none⟩) g2).trans ?_, (World.cell?_of_block (a := ⟨w.heap.size + 1, 3, none⟩) g2).trans ?_, (World.cell?_of_block (a := ⟨w.heap.size + 1, 4, none⟩) g2).trans ?_⟩ <;> (rw [← hW0]; simp [go_sem])))
  have S0 := Lib.hid (HB.out.below B0)
  have G0 : Grown2 W0 W0 b c := Grown2.refl _ _ _
  have GW : Grown2 w W0 b c := (Grown2.refl _ _ _).below B0
  have HW0 := Lib.hid hW0
  clear hW0 z0
  by_cases kk0 : kind = 0
  · subst kk0
    have hok' := fillS_ok HB.out.ok x past
    have hl := Lib.hid (fun w h => wFill_any b s x past w h HB.out.ok)
    have hr := Lib.hid (fun w h => rwFill_any c s x past w h HB.out.ok hp)
    clear hp hn
    generalize fillV s x past = AW at *
    generalize lookE s x [past] = AE at *
    generalize fillS s x past = s1 at *
    have eW : (AW == AW) = true := by simp
    have eE : (AE == AE) = true := by simp
    go_enter Try.func21, Try.ntmps21
    go_wp2_with (fail)
    rw [HW0.out]
    obtain ⟨⟨d0, d1⟩, k0, k1, k2, k3, k4⟩ := LOC.out _ G0
    refine (hl.out _ S0.out.p).mono ?_
    rintro e w1 ⟨rfl, hp1, hg1⟩
    have P1 := Lib.hid hp1
    have R1 := Lib.hid (S0.out.r.grown hg1 (by simp; omega))
    have G1 := G0.left hg1
    clear hp1 hg1 d0 d1 k0 k1 k2 k3 k4
    obtain ⟨⟨d0, d1⟩, k0, k1, k2, k3, k4⟩ := LOC.out _ G1
    go_wp2_with (fail)
    refine (hr.out _ R1.out).mono ?_
    rintro e w2 ⟨rfl, hr2, hg2⟩
    have S2 := Lib.hid (show BothAt w2 b c s1 from ⟨P1.out.grown hg2 (by simp; omega), hr2, hok'⟩)
    have G2 := G1.right hg2
    clear hr2 hg2 d0 d1 k0 k1 k2 k3 k4
    obtain ⟨⟨d0, d1⟩, k0, k1, k2, k3, k4⟩ := LOC.out _ G2
    go_wp2_with (fail)
    first
      | (refine (walike_any b c s1 _ S2.out).mono ?_
         rintro e w3 ⟨rfl, hb3⟩
         go_wp2_with (fail)
         go_ret
         exact ⟨rfl, s1, S2.out.below hb3, GW.trans (G2.below hb3)⟩)
      | (go_region_with ((go_at_call 22; refine (walike_any b c s1 _ (S2.out.below ((Below.refl _ _).drew))).mono ?_; rintro e w3 ⟨rfl, hb3⟩))
         all_goals
           go_wp2_with (fail)
           go_ret
           exact ⟨rfl, s1, S2.out.below ((Below.refl _ _).drew.trans hb3), GW.trans (G2.below ((Below.refl _ _).drew.trans hb3))⟩)
  by_cases kk1 : kind = 1
  · subst kk1
    have hok' := takeS_ok HB.out.ok x past now n
    have hl := Lib.hid (fun w h => wTake_any b s x past now n w h HB.out.ok)
    have hr := Lib.hid (fun w h => rwTake_any c s x past now n w h HB.out.ok hp hn)
    clear hp hn
    generalize takeB s x past now n = AW at *
    generalize takeE s x past now n = AE at *
    generalize takeS s x past now n = s1 at *
    have eW : (AW == AW) = true := by simp
    have eE : (AE == AE) = true := by simp
    go_enter Try.func21, Try.ntmps21
    go_wp2_with (fail)
    rw [HW0.out]
    obtain ⟨⟨d0, d1⟩, k0, k1, k2, k3, k4⟩ := LOC.out _ G0
    refine (hl.out _ S0.out.p).mono ?_
    rintro e w1 ⟨rfl, hp1, hg1⟩
    have P1 := Lib.hid hp1
    have R1 := Lib.hid (S0.out.r.grown hg1 (by simp; omega))
    have G1 := G0.left hg1
    clear hp1 hg1 d0 d1 k0 k1 k2 k3 k4
    obtain ⟨⟨d0, d1⟩, k0, k1, k2, k3, k4⟩ := LOC.out _ G1
    go_wp2_with (fail)
    refine (hr.out _ R1.out).mono ?_
    rintro e w2 ⟨rfl, hr2, hg2⟩
    have S2 := Lib.hid (show BothAt w2 b c s1 from ⟨P1.out.grown hg2 (by simp; omega), hr2, hok'⟩)
    have G2 := G1.right hg2
    clear hr2 hg2 d0 d1 k0 k1 k2 k3 k4
    obtain ⟨⟨d0, d1⟩, k0, k1, k2, k3, k4⟩ := LOC.out _ G2
    go_wp2_with (fail)
    first
      | (refine (walike_any b c s1 _ S2.out).mono ?_
         rintro e w3 ⟨rfl, hb3⟩
         go_wp2_with (fail)
         go_ret
         exact ⟨rfl, s1, S2.out.below hb3, GW.trans (G2.below hb3)⟩)
      | (go_region_with ((go_at_call 22; refine (walike_any b c s1 _ (S2.out.below ((Below.refl _ _).drew))).mono ?_; rintro e w3 ⟨rfl, hb3⟩))
         all_goals
           go_wp2_with (fail)
           go_ret
           exact ⟨rfl, s1, S2.out.below ((Below.refl _ _).drew.trans hb3), GW.trans (G2.below ((Below.refl _ _).drew.trans hb3))⟩)
  by_cases kk2 : kind = 2
  · subst kk2
    have hl := Lib.hid (fun w h => wLook_any b s x past now n w h HB.out.ok)
    have hr := Lib.hid (fun w h => rwLook_any c s x past now n w h HB.out.ok hp hn)
    clear hp hn
    generalize takeB s x past now n = AW at *
    generalize takeE s x past now n = AE at *
    have eW : (AW == AW) = true := by simp
    have eE : (AE == AE) = true := by simp
    go_enter Try.func21, Try.ntmps21
    go_wp2_with (fail)
    rw [HW0.out]
    obtain ⟨⟨d0, d1⟩, k0, k1, k2, k3, k4⟩ := LOC.out _ G0
    refine (hl.out _ S0.out.p).mono ?_
    rintro e w1 ⟨rfl, hb1⟩
    have S1 := Lib.hid (S0.out.below hb1)
    have G1 := G0.below hb1
    clear hb1 d0 d1 k0 k1 k2 k3 k4
    obtain ⟨⟨d0, d1⟩, k0, k1, k2, k3, k4⟩ := LOC.out _ G1
    go_wp2_with (fail)
    refine (hr.out _ S1.out.r).mono ?_
    rintro e w2 ⟨rfl, hb2⟩
    have S2 := Lib.hid (S1.out.below hb2)
    have G2 := G1.below hb2
    clear hb2 d0 d1 k0 k1 k2 k3 k4
    obtain ⟨⟨d0, d1⟩, k0, k1, k2, k3, k4⟩ := LOC.out _ G2
    go_wp2_with (fail)
    first
      | (refine (walike_any b c s _ S2.out).mono ?_
         rintro e w3 ⟨rfl, hb3⟩
         go_wp2_with (fail)
         go_ret
         exact ⟨rfl, s, S2.out.below hb3, GW.trans (G2.below hb3)⟩)
      | (go_region_with ((go_at_call 22; refine (walike_any b c s _ (S2.out.below ((Below.refl _ _).drew))).mono ?_; rintro e w3 ⟨rfl, hb3⟩))
         all_goals
           go_wp2_with (fail)
           go_ret
           exact ⟨rfl, s, S2.out.below ((Below.refl _ _).drew.trans hb3), GW.trans (G2.below ((Below.refl _ _).drew.trans hb3))⟩)
  by_cases kk3 : kind = 3
  · subst kk3
    have hl := Lib.hid (fun w h => wRate_any b s x past w h HB.out.ok)
    have hr := Lib.hid (fun w h => rwRate_any c s x past w h HB.out.ok hp)
    clear hp hn
    generalize fillV s x past = AW at *
    generalize lookE s x [past] = AE at *
    have eW : (AW == AW) = true := by simp
    have eE : (AE == AE) = true := by simp
    go_enter Try.func21, Try.ntmps21
    go_wp2_with (fail)
    rw [HW0.out]
    obtain ⟨⟨d0, d1⟩, k0, k1, k2, k3, k4⟩ := LOC.out _ G0
    refine (hl.out _ S0.out.p).mono ?_
    rintro e w1 ⟨rfl, hb1⟩
    have S1 := Lib.hid (S0.out.below hb1)
    have G1 := G0.below hb1
    clear hb1 d0 d1 k0 k1 k2 k3 k4
    obtain ⟨⟨d0, d1⟩, k0, k1, k2, k3, k4⟩ := LOC.out _ G1
    go_wp2_with (fail)
    refine (hr.out _ S1.out.r).mono ?_
    rintro e w2 ⟨rfl, hb2⟩
    have S2 := Lib.hid (S1.out.below hb2)
    have G2 := G1.below hb2
    clear hb2 d0 d1 k0 k1 k2 k3 k4
    obtain ⟨⟨d0, d1⟩, k0, k1, k2, k3, k4⟩ := LOC.out _ G2
    go_wp2_with (fail)
    first
      | (refine (walike_any b c s _ S2.out).mono ?_
         rintro e w3 ⟨rfl, hb3⟩
         go_wp2_with (fail)
         go_ret
         exact ⟨rfl, s, S2.out.below hb3, GW.trans (G2.below hb3)⟩)
      | (go_region_with ((go_at_call 22; refine (walike_any b c s _ (S2.out.below ((Below.refl _ _).drew))).mono ?_; rintro e w3 ⟨rfl, hb3⟩))
         all_goals
           go_wp2_with (fail)
           go_ret
           exact ⟨rfl, s, S2.out.below ((Below.refl _ _).drew.trans hb3), GW.trans (G2.below ((Below.refl _ _).drew.trans hb3))⟩)
  clear hp hn
  go_enter Try.func21, Try.ntmps21
  go_wp2_with (fail)
  go_ret
  exact ⟨rfl, s, by rw [HW0.out]; exact S0.out, by rw [HW0.out]; exact GW⟩
end Go.Proofs.Ytfcmacibblkdkaa
