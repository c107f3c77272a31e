/- BreakerNone: nothing panics, and all is zero, where there is no breaker. -/
import Derived.Test.YtejkfmepiagabaaBrF
namespace Go.Proofs.Ytejkfmepiagabaa
open Go.RowKit
set_option linter.unusedVariables false
set_option linter.unusedSimpArgs false

theorem klook_nil (at_ : Int) (w : World) : Calls Try.prog 56 #[.pointer none, .int .i64 at_] w fun e w' => e = .returned (.int .i64 1) ∧ w' = w := by
  go_enter Try.func56, Try.ntmps56
  go_wp2_with (fail)
  go_ret
  exact ⟨rfl, rfl⟩
theorem klookp_nil (at_ : Int) (w : World) : Calls Try.prog 32 #[.pointer none, .int .i64 at_] w fun e w' => e = .returned (.tuple #[.bool false, .int .i64 1]) ∧ w' = w := by
  go_enter Try.func32, Try.ntmps32
  go_wp2_with (fail)
  refine (klook_nil at_ _).mono ?_
  rintro e wq ⟨rfl, hq⟩
  subst hq
  go_wp2_with (fail)
  go_ret2
  exact ⟨rfl, rfl⟩
theorem kenter_nil (at_ : Int) (w : World) : Calls Try.prog 28 #[.pointer none, .int .i64 at_] w fun e w' => e = .returned (.tuple #[.bool false, .bool false, .int .i64 1]) ∧ w' = w := by
  go_enter Try.func28, Try.ntmps28
  go_wp2_with (fail)
  refine (klook_nil at_ _).mono ?_
  rintro e wq ⟨rfl, hq⟩
  subst hq
  go_wp2_with (fail)
  go_ret3
  exact ⟨rfl, rfl⟩
theorem kdone_nil (at_ rt : Int) (b c : Bool) (w : World) : Calls Try.prog 25 #[.pointer none, .int .i64 at_, .int .i64 rt, .bool b, .bool c] w fun e w' => e = .returned (.int .i64 1) ∧ w' = w := by
  go_enter Try.func25, Try.ntmps25
  go_wp2_with (fail)
  refine (klook_nil at_ _).mono ?_
  rintro e wq ⟨rfl, hq⟩
  subst hq
  go_wp2_with (fail)
  go_ret
  exact ⟨rfl, rfl⟩
theorem kgive_nil (at_ : Int) (w : World) : Calls Try.prog 29 #[.pointer none, .int .i64 at_] w fun e w' => e = .returned (.int .i64 1) ∧ w' = w := by
  go_enter Try.func29, Try.ntmps29
  go_wp2_with (fail)
  refine (klook_nil at_ _).mono ?_
  rintro e wq ⟨rfl, hq⟩
  subst hq
  go_wp2_with (fail)
  go_ret
  exact ⟨rfl, rfl⟩
theorem kuntil_nil (w : World) : Calls Try.prog 27 #[.pointer none] w fun e w' => e = .returned (.tuple #[.int .i64 0, .bool false]) ∧ w' = w := by
  go_enter Try.func27, Try.ntmps27
  go_wp2_with (fail)
  go_ret2
  exact ⟨rfl, rfl⟩
theorem kstate_nil (w : World) : Calls Try.prog 26 #[.pointer none] w fun e w' => e = .returned (.int .u8 0) ∧ w' = w := by
  go_enter Try.func26, Try.ntmps26
  go_wp2_with (fail)
  go_ret
  exact ⟨rfl, rfl⟩
theorem ktrips_nil (w : World) : Calls Try.prog 31 #[.pointer none] w fun e w' => e = .returned (.int .i64 0) ∧ w' = w := by
  go_enter Try.func31, Try.ntmps31
  go_wp2_with (fail)
  go_ret
  exact ⟨rfl, rfl⟩
theorem klast_nil (w : World) : Calls Try.prog 35 #[.pointer none] w fun e w' => e = .returned (.int .i64 0) ∧ w' = w := by
  go_enter Try.func35, Try.ntmps35
  go_wp2_with (fail)
  go_ret
  exact ⟨rfl, rfl⟩
theorem kfork_nil (w : World) : Calls Try.prog 36 #[.pointer none] w fun e w' => e = .returned (.pointer none) ∧ w' = w := by
  go_enter Try.func36, Try.ntmps36
  go_wp2_with (fail)
  go_ret
  exact ⟨rfl, rfl⟩
theorem ksum_nil (at_ : Int) (w : World) : Calls Try.prog 33 #[.pointer none, .int .i64 at_] w fun e w' => e = .returned (.tuple #[.agg #[.int .i64 0, .int .i64 0, .int .i64 0, .int .i64 0, .int .i64 0, .int .i64 0], .int .i64 1]) ∧ Below w.heap.size w w' := by
  have hb : Below w.heap.size w (w.alloc (.cells #[.int .i64 0, .int .i64 0, .int .i64 0, .int .i64 0, .int .i64 0, .int .i64 0] 34)) := (Below.refl _ _).alloc (Nat.le_refl _) _
  have hn := (get_allocW w (.cells #[.int .i64 0, .int .i64 0, .int .i64 0, .int .i64 0, .int .i64 0, .int .i64 0] 34) w.heap.size).trans (if_pos rfl)
  have HB := Lib.hid hb
  have HN := Lib.hid hn
  clear hb hn
  go_enter Try.func33, Try.ntmps33
  go_wp2_with (fail)
  refine (klook_nil at_ _).mono ?_
  rintro e wq ⟨rfl, hq⟩
  subst hq
  go_wp2_with (fail)
  refine bodyPost_ret (results_cell_tmp (P := Try.prog) rfl _ _ w.heap.size 34 #[.int .i64 0, .int .i64 0, .int .i64 0, .int .i64 0, .int .i64 0, .int .i64 0] (0, 0) _ (.int .i64 1) (by rfl) (by rfl) HN.out Try.underlying34 rfl (by kernel_rfl)) rfl ?_
  exact ⟨rfl, HB.out⟩
set_option maxHeartbeats 1600000 in
theorem kall_nil (at_ : Int) (w : World) (b : Nat) (c0 : w.cell? ⟨b, 0, none⟩ = some (.pointer none)) (c1 : w.cell? ⟨b, 1, none⟩ = some (.pointer none)) :
    Calls Try.prog 34 #[.int .i64 at_, .slice (some ⟨b, 0, none⟩) 2 2] w fun e w' => e = .returned (.tuple #[.int .i64 2, .bool true, .int .i64 0]) ∧ w' = w := by
  go_enter Try.func34, Try.ntmps34
  go_wp2_with (fail)
  go_loop [14] (fun i => ∃ j : Nat, j ≤ 2 ∧ i = .int .i64 j) (fun i => 2 - (intOf i).toNat)
  case atStart => exact ⟨0, by omega, rfl⟩
  case round =>
    obtain ⟨j, hj, rfl⟩ := hrel
    match j, hj with
    | 0, _ =>
      go_wp2_with (fail)
      refine (klook_nil at_ _).mono ?_
      rintro e wq ⟨rfl, hq⟩
      subst hq
      go_wp2_with (fail)
      exact ⟨⟨1, by omega, rfl⟩, by simp [intOf]⟩
    | 1, _ =>
      go_wp2_with (fail)
      refine (klook_nil at_ _).mono ?_
      rintro e wq ⟨rfl, hq⟩
      subst hq
      go_wp2_with (fail)
      exact ⟨⟨2, by omega, rfl⟩, by simp [intOf]⟩
    | 2, _ =>
      go_wp2_with (fail)
      go_loop [31] (fun i => ∃ j : Nat, j ≤ 2 ∧ i = .int .i64 j) (fun i => 2 - (intOf i).toNat)
      case atStart => exact ⟨0, by omega, rfl⟩
      case round =>
        obtain ⟨j, hj, rfl⟩ := hrel
        match j, hj with
        | 0, _ =>
          go_wp2_with (fail)
          exact ⟨⟨1, by omega, rfl⟩, by simp [intOf]⟩
        | 1, _ =>
          go_wp2_with (fail)
          exact ⟨⟨2, by omega, rfl⟩, by simp [intOf]⟩
        | 2, _ =>
          go_wp2_with (fail)
          go_ret3
          exact ⟨rfl, rfl⟩

set_option maxHeartbeats 6400000 in
set_option maxRecDepth 100000 in
theorem brnone_walk (w : World) (at_ : Int) (wa : (Lit.int .i64 at_).wf = true) (rt : Int) (wr : (Lit.int .i64 rt).wf = true) :
    Calls Try.prog 9 #[.int .i64 at_, .int .i64 rt] w fun e w' => e = .returned (.bool true) ∧ Below w.heap.size w w' := by
  go_enter Try.func9, Try.ntmps9
  go_wp2_with (fail)
  refine (klookp_nil at_ _).mono ?_
  rintro e wz1 ⟨rfl, hq⟩
  subst hq
  go_wp2_with (fail)
  refine (kenter_nil at_ _).mono ?_
  rintro e wz2 ⟨rfl, hq⟩
  subst hq
  go_wp2_with (fail)
  refine (ksum_nil at_ _).mono ?_
  rintro e w1 ⟨rfl, h1⟩
  have HB1 := Lib.hid (h1.alloc h1.size (.cells #[.int .i64 0, .int .i64 0, .int .i64 0, .int .i64 0, .int .i64 0, .int .i64 0] 34))
  clear h1
  go_wp2_with (fail)
  obtain ⟨w2, hw2⟩ : ∃ w2, w1.alloc (.cells #[.int .i64 0, .int .i64 0, .int .i64 0, .int .i64 0, .int .i64 0, .int .i64 0] 34) = w2 := ⟨_, rfl⟩
  rw [hw2] at HB1 ⊢
  clear hw2
  refine (kuntil_nil _).mono ?_
  rintro e wq9 ⟨rfl, hq⟩
  subst hq
  have HB6 := Lib.hid (HB1.out.alloc HB1.out.size (.cells #[.pointer none, .pointer none] 53))
  have HG := Lib.hid ((get_allocW wq9 (.cells #[.pointer none, .pointer none] 53) wq9.heap.size).trans (if_pos rfl))
  go_wp2_with (fail)
  refine (kall_nil at_ _ wq9.heap.size (by simp only [World.cell?, HG.out]; rfl) (by simp only [World.cell?, HG.out]; rfl)).mono ?_
  rintro e w7 ⟨rfl, hq⟩
  subst hq
  go_wp2_with (fail)
  refine (brlive_any _).mono ?_
  rintro e w9 ⟨rfl, h9⟩
  have HB9 := Lib.hid (HB6.out.trans (h9.mono HB6.out.size))
  clear h9 HB6 HG HB1
  go_wp2_with (fail)
  refine (kdone_nil at_ rt true true _).mono ?_
  rintro e wz3 ⟨rfl, hq⟩
  subst hq
  go_wp2_with (fail)
  refine (kgive_nil at_ _).mono ?_
  rintro e wz4 ⟨rfl, hq⟩
  subst hq
  go_wp2_with (fail)
  refine (kstate_nil _).mono ?_
  rintro e wz5 ⟨rfl, hq⟩
  subst hq
  go_wp2_with (fail)
  refine (ktrips_nil _).mono ?_
  rintro e wz6 ⟨rfl, hq⟩
  subst hq
  go_wp2_with (fail)
  refine (klast_nil _).mono ?_
  rintro e wz7 ⟨rfl, hq⟩
  subst hq
  go_wp2_with (fail)
  refine (kfork_nil _).mono ?_
  rintro e wz8 ⟨rfl, hq⟩
  subst hq
  go_wp2_with (fail)
  go_ret
  exact ⟨rfl, HB9.out⟩
end Go.Proofs.Ytejkfmepiagabaa
