/- The layer num over lists: the program's Mean: what a call returns; nothing that was there turns. -/
import Derived.Test.YtdglclgjiilfkaaNumListsC
namespace Go.Proofs.Ytdglclgjiilfkaa
open Go.RowKit
set_option linter.unusedVariables false
set_option linter.unusedSimpArgs false

/-- One step of a sum of two words, as two's complement. -/
theorem words_step (hi lo S X XU T : Int) (h0 : 0 ≤ hi) (h1 : hi < 18446744073709551616) (l0 : 0 ≤ lo) (l1 : lo < 18446744073709551616) (x0 : -9223372036854775808 ≤ X) (x1 : X ≤ 9223372036854775807)
    (hXU : XU = X % 18446744073709551616) (hT : T = if X < 0 then 18446744073709551615 else 0) (hS : hi * 18446744073709551616 + lo = S % 340282366920938463463374607431768211456) :
    ∃ x y x' : Int, (∀ w, (callFunc 43 #[.int .u64 lo, .int .u64 XU, .int .u64 0]).run Try.prog w = .ok (.value (.tuple #[.int .u64 x, .int .u64 y])) w) ∧
      (∃ y', ∀ w, (callFunc 43 #[.int .u64 hi, .int .u64 T, .int .u64 y]).run Try.prog w = .ok (.value (.tuple #[.int .u64 x', .int .u64 y'])) w) ∧
      0 ≤ x ∧ x < 18446744073709551616 ∧ 0 ≤ x' ∧ x' < 18446744073709551616 ∧ x' * 18446744073709551616 + x = (S + X) % 340282366920938463463374607431768211456 := by
  have t0 : 0 ≤ T := by rw [hT]; split <;> omega
  have e1 := fun w => add64 lo XU 0 l0 (by omega) (by decide) (by decide) w
  have e2 := fun w => add64 hi T ((lo + XU + 0) / 18446744073709551616) h0 t0 (by omega) (by omega) w
  refine ⟨_, _, _, e1, ⟨_, e2⟩, by omega, by omega, by omega, by omega, ?_⟩
  rw [hT, hXU]
  split <;> omega

/-- 0 less two words. -/
theorem words_neg (hi lo : Int) (h0 : 0 ≤ hi) (h1 : hi < 18446744073709551616) (l0 : 0 ≤ lo) (l1 : lo < 18446744073709551616) (hp : 0 < hi) :
    ∃ x y x' : Int, (∀ w, (callFunc 44 #[.int .u64 0, .int .u64 lo, .int .u64 0]).run Try.prog w = .ok (.value (.tuple #[.int .u64 x, .int .u64 y])) w) ∧
      (∃ y', ∀ w, (callFunc 44 #[.int .u64 0, .int .u64 hi, .int .u64 y]).run Try.prog w = .ok (.value (.tuple #[.int .u64 x', .int .u64 y'])) w) ∧
      0 ≤ x ∧ x < 18446744073709551616 ∧ 0 ≤ x' ∧ x' < 18446744073709551616 ∧ x' * 18446744073709551616 + x = 340282366920938463463374607431768211456 - (hi * 18446744073709551616 + lo) := by
  have s1 := fun w => sub64 0 lo 0 (by decide) l0 l1 (by decide) (by decide) w
  by_cases hlt : 0 < lo + 0
  · rw [if_pos hlt] at s1
    have s2 := fun w => sub64 0 hi 1 (by decide) h0 h1 (by decide) (by decide) w
    exact ⟨_, _, _, s1, ⟨_, s2⟩, by omega, by omega, by omega, by omega, by omega⟩
  · rw [if_neg hlt] at s1
    have s2 := fun w => sub64 0 hi 0 (by decide) h0 h1 (by decide) (by decide) w
    exact ⟨_, _, _, s1, ⟨_, s2⟩, by omega, by omega, by omega, by omega, by omega⟩

set_option maxHeartbeats 1600000 in
theorem mean_some (b off len cap : Nat) (xs : List Int) (w : World) (hb : b < w.heap.size) (hx : I64s xs) (hl : xs.length = len) (h0 : 0 < len) (hm : len ≤ 140737488355328) (hc : ∀ j, j < xs.length → w.cell? ⟨b, off + j, none⟩ = some (.int .i64 (xs.getD j 0))) :
    Calls Try.prog 27 #[.slice (some ⟨b, off, none⟩) len cap] w fun e w' => e = .returned (.tuple #[.int .i64 (mnN xs), .int .i64 (mnE xs)]) ∧ Below w.heap.size w w' := by
  have Hn := Lib.hid (show mnN xs = fitN (rnd (sumI xs) len false) by unfold mnN rnd; rw [if_neg (by omega), hl]; simp)
  have He := Lib.hid (show mnE xs = fitE (rnd (sumI xs) len false) by unfold mnE rnd; rw [if_neg (by omega), hl]; simp)
  have Hc := Lib.hid hc
  have Hl := Lib.hid hl
  have hne : ((len : Int) == 0) = false := by simp; omega
  clear hc hl
  go_enter Try.func27, Try.ntmps27
  go_wp2_with (fail)
  go_loopw [21] (fun i wr => ∃ (k : Nat) (hi lo : Int), k ≤ len ∧ i = .int .i64 k ∧ wr.cell? ⟨w.heap.size, 0, none⟩ = some (.int .u64 hi) ∧ wr.cell? ⟨w.heap.size, 1, none⟩ = some (.int .u64 lo) ∧ (∀ o, wr.frozen? ⟨w.heap.size, o, none⟩ = false) ∧ w.heap.size < wr.heap.size ∧ 0 ≤ hi ∧ hi < 18446744073709551616 ∧ 0 ≤ lo ∧ lo < 18446744073709551616 ∧ Hid (hi * 18446744073709551616 + lo = sumI (xs.take k) % 340282366920938463463374607431768211456) ∧ Below w.heap.size w wr) (fun i _ => len - (intOf i).toNat)
  case atStart =>
    exact ⟨0, 0, 0, Nat.zero_le _, rfl, by simp [go_sem], by simp [go_sem], by simp [go_sem], by simp, by omega, by omega, by omega, by omega, rfl, by repeat (first | exact Below.refl _ _ | apply below_drewN | apply Below.drew | apply Below.alloc | apply Below.setCell | omega | (focus (simp <;> omega)))⟩
  case round =>
    obtain ⟨k, hi, lo, hk, rfl, c0, c1, fr, hz, i0, i1, l0, l1, hv, hbel⟩ := hrel
    obtain ⟨x0, x1⟩ := getD_bd hx k
    obtain ⟨t0, t1⟩ := sumI_bd hx k
    by_cases hlt : k < len
    · have Hst := Lib.hid (sumI_step xs k (by rw [Hl.out]; exact hlt))
      have hcell : wr.cell? ⟨b, off + k, none⟩ = some (.int .i64 (xs.getD k 0)) := (hbel.cell (p := ⟨b, off + k, none⟩) hb).trans (Hc.out k (by rw [Hl.out]; exact hlt))
      generalize hS : sumI (xs.take k) = S at *
      generalize hX : xs.getD k 0 = X at *
      clear hS hX
      have k0 : (0 : Int) ≤ k := by omega
      have k1 : (k : Int) < len := by omega
      obtain ⟨XU, hXU⟩ : ∃ XU : Int, X % 18446744073709551616 = XU := ⟨_, rfl⟩
      obtain ⟨T, hT⟩ : ∃ T : Int, (if X < 0 then 18446744073709551615 else 0) = T := ⟨_, rfl⟩
      obtain ⟨x, y, x', ha1, ⟨y', ha2⟩, a0, a1, a2, a3, hsum⟩ := words_step hi lo S X XU T i0 i1 l0 l1 x0 x1 hXU.symm hT.symm hv.out
      have r1 : IntKind.u64.wrap X = XU := by rw [IntKind.wrap_u64]; exact hXU
      have hsum' : Hid (x' * 18446744073709551616 + x = sumI (xs.take (k + 1)) % 340282366920938463463374607431768211456) := by show _ = _; rw [Hst.out]; exact hsum
      have r2 : IntKind.u64.wrap (X / 9223372036854775808) = T := by
        rw [IntKind.wrap_u64, ← hT]
        split <;> omega
      have T0 : 0 ≤ T := by rw [← hT]; split <;> omega
      clear hXU hT hsum
      go_wp2_with (fail)
      go_roundw
      case rel => exact ⟨k + 1, x', x, by omega, by go_num, by simp [go_sem, c0, c1, fr], by simp [go_sem, c0, c1, fr], by simp [go_sem, fr], by simp [go_sem]; omega, a2, a3, a0, a1, hsum', (hbel.setCell (by simp) _).setCell (by simp) _⟩
      case measure => simp [intOf]; omega
    · have hkl : k = len := by omega
      subst hkl
      have hv' : Hid (hi * 18446744073709551616 + lo = sumI xs % 340282366920938463463374607431768211456) := by show _ = _; rw [hv.out, List.take_of_length_le (by rw [Hl.out]; exact Nat.le_refl _)]
      clear hv
      rw [List.take_of_length_le (by rw [Hl.out]; exact Nat.le_refl _)] at t0 t1
      by_cases hneg : sumI xs < 0
      · have hp : 9223372036854775808 ≤ hi := by have := hv'.out; omega
        have hbit : (hi / 9223372036854775808 == 1) = true := by rw [beq_iff_eq]; omega
        obtain ⟨x, y, x', hs1, ⟨y', hs2⟩, a0, a1, a2, a3, hsum⟩ := words_neg hi lo i0 i1 l0 l1 (by omega)
        have hval := Lib.hid (show sgn true (x' * 18446744073709551616 + x) = sumI xs by have := hv'.out; simp [sgn]; omega)
        clear hsum hneg
        go_wp2_with (fail)
        refine (by_any x' x k true false _ a2 a3 a0 a1 (by omega) (by omega) (by omega)).mono ?_
        rintro e w4 ⟨rfl, hb4⟩
        rw [hval.out]
        have B4 : Below w.heap.size w w4 := Below.trans (by repeat (first | exact hbel | apply below_drewN | apply Below.drew | apply Below.alloc | apply Below.setCell | omega | (focus (simp <;> omega)))) (hb4.mono (by simp; omega))
        go_wp2_with (fail)
        refine (told_any _ _ _).mono ?_
        rintro e w5 ⟨rfl, rfl⟩
        rw [fitN_of, fitE_of, ← Hn.out, ← He.out]
        go_wp2_with (fail)
        go_ret2
        exact ⟨rfl, B4⟩
      · have hbit : (hi / 9223372036854775808 == 1) = false := by rw [beq_eq_false_iff_ne]; have := hv'.out; omega
        have hval := Lib.hid (show sgn false (hi * 18446744073709551616 + lo) = sumI xs by have := hv'.out; simp [sgn]; omega)
        clear hneg
        go_wp2_with (fail)
        refine (by_any hi lo k false false _ i0 i1 l0 l1 (by omega) (by omega) (by omega)).mono ?_
        rintro e w4 ⟨rfl, hb4⟩
        rw [hval.out]
        have B4 : Below w.heap.size w w4 := Below.trans (by repeat (first | exact hbel | apply below_drewN | apply Below.drew | apply Below.alloc | apply Below.setCell | omega | (focus (simp <;> omega)))) (hb4.mono (by simp; omega))
        go_wp2_with (fail)
        refine (told_any _ _ _).mono ?_
        rintro e w5 ⟨rfl, rfl⟩
        rw [fitN_of, fitE_of, ← Hn.out, ← He.out]
        go_wp2_with (fail)
        go_ret2
        exact ⟨rfl, B4⟩

theorem mean_nil (a : Option Addr) (cap : Nat) (w : World) : Calls Try.prog 27 #[.slice a 0 cap] w fun e w' => e = .returned (.tuple #[.int .i64 0, .int .i64 4]) ∧ Below w.heap.size w w' := by
  go_enter Try.func27, Try.ntmps27
  go_wp2_with (fail)
  go_ret2
  exact ⟨rfl, Below.refl _ _⟩

theorem mean_any (a : Option Addr) (len cap : Nat) (xs : List Int) (w : World) (hx : I64s xs) (hl : xs.length = len) (hm : len ≤ 140737488355328) (hr : IntsAt w a xs) :
    Calls Try.prog 27 #[.slice a len cap] w fun e w' => e = .returned (.tuple #[.int .i64 (mnN xs), .int .i64 (mnE xs)]) ∧ Below w.heap.size w w' := by
  by_cases h0 : 0 < len
  · rcases hr with rfl | ⟨b, off, rfl, hb, hc⟩
    · simp at hl; omega
    · exact mean_some b off len cap xs w hb hx hl h0 hm hc
  · obtain rfl : len = 0 := by omega
    have e1 : mnN xs = 0 := by simp [mnN, hl]
    have e2 : mnE xs = 4 := by simp [mnE, hl]
    rw [e1, e2]
    exact mean_nil a cap w
end Go.Proofs.Ytdglclgjiilfkaa
