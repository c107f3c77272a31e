/- The layer num over lists: the reference's Mean: what a call returns; nothing that was there turns. -/
import Derived.Test.YtdglclgjiilfkaaNumListsB
namespace Go.Proofs.Ytdglclgjiilfkaa
open Go.RowKit
set_option linter.unusedVariables false
set_option linter.unusedSimpArgs false

/-- What Mean answers. -/
def mnN (xs : List Int) : Int := if xs.length = 0 then 0 else fitN ((sumI xs).fdiv xs.length)
def mnE (xs : List Int) : Int := if xs.length = 0 then 4 else fitE ((sumI xs).fdiv xs.length)

set_option maxHeartbeats 1600000 in
theorem rmean_some (b off len cap : Nat) (xs : List Int) (w : World) (hb : b < w.heap.size) (hx : I64s xs) (hl : xs.length = len) (h0 : 0 < len) (hm : len ≤ 140737488355328) (hc : ∀ j, j < xs.length → w.cell? ⟨b, off + j, none⟩ = some (.int .i64 (xs.getD j 0))) :
    Calls Try.prog 28 #[.slice (some ⟨b, off, none⟩) len cap] w fun e w' => e = .returned (.tuple #[.int .i64 (mnN xs), .int .i64 (mnE xs)]) ∧ Below w.heap.size w w' := by
  have Hn := Lib.hid (show mnN xs = fitN (rnd (sumI xs) len false) by unfold mnN rnd; rw [if_neg (by omega), hl]; simp)
  have He := Lib.hid (show mnE xs = fitE (rnd (sumI xs) len false) by unfold mnE rnd; rw [if_neg (by omega), hl]; simp)
  have Hc := Lib.hid hc
  have Hl := Lib.hid hl
  have hne : ((len : Int) == 0) = false := by simp; omega
  clear hc hl
  go_enter Try.func28, Try.ntmps28
  go_wp2_with (fail)
  go_loopw [5] (fun i wr => ∃ (k : Nat) (s : Bool) (hi lo : Int), k ≤ len ∧ i = .int .i64 k ∧ wr.cell? ⟨w.heap.size, 0, none⟩ = some (.bool s) ∧ wr.cell? ⟨w.heap.size, 1, none⟩ = some (.int .u64 hi) ∧ wr.cell? ⟨w.heap.size, 2, none⟩ = some (.int .u64 lo) ∧ (∀ o, wr.frozen? ⟨w.heap.size, o, none⟩ = false) ∧ w.heap.size < wr.heap.size ∧ 0 ≤ hi ∧ hi < 18446744073709551616 ∧ 0 ≤ lo ∧ lo < 18446744073709551616 ∧ Hid (sgn s (hi * 18446744073709551616 + lo) = sumI (xs.take k)) ∧ Below w.heap.size w wr) (fun i _ => len - (intOf i).toNat)
  case atStart =>
    exact ⟨0, false, 0, 0, Nat.zero_le _, rfl, by simp [go_sem], by simp [go_sem], by simp [go_sem], by simp [go_sem], by simp, by omega, by omega, by omega, by omega, rfl, by repeat (first | exact Below.refl _ _ | apply below_drewN | apply Below.drew | apply Below.alloc | apply Below.setCell | omega | (focus (simp <;> omega)))⟩
  case round =>
    obtain ⟨k, s, hi, lo, hk, rfl, c0, c1, c2, fr, hz, i0, i1, l0, l1, hv, hbel⟩ := hrel
    obtain ⟨x0, x1⟩ := getD_bd hx k
    obtain ⟨t0, t1⟩ := sumI_bd hx k
    have hi0 := wide_small i0 l0 l1 hv.out (by omega) (by omega)
    by_cases hlt : k < len
    · have Hst := Lib.hid (sumI_step xs k (by rw [Hl.out]; exact hlt))
      have hcell : wr.cell? ⟨b, off + k, none⟩ = some (.int .i64 (xs.getD k 0)) := (hbel.cell (p := ⟨b, off + k, none⟩) hb).trans (Hc.out k (by rw [Hl.out]; exact hlt))
      generalize hS : sumI (xs.take k) = S at *
      generalize hX : xs.getD k 0 = X at *
      clear hS hX
      have k0 : (0 : Int) ≤ k := by omega
      have k1 : (k : Int) < len := by omega
      go_wp2_with (fail)
      go_region_with (first | (go_at_call 37; refine (of_wide X _ x0 x1).mono ?_; rintro e w2 ⟨q, qh, ql, rfl, q0, q1, q2, q3, qv, hb2⟩; have qh0 := wide_small q0 q2 q3 qv (by omega) (by omega); have Qv := Lib.hid qv; clear qv; have d0 : w2.cell? ⟨w.heap.size, 0, none⟩ = some (.bool s) := ((hb2.cell (p := ⟨w.heap.size, 0, none⟩) hz).trans c0); have d1 : w2.cell? ⟨w.heap.size, 1, none⟩ = some (.int .u64 hi) := ((hb2.cell (p := ⟨w.heap.size, 1, none⟩) hz).trans c1); have d2 : w2.cell? ⟨w.heap.size, 2, none⟩ = some (.int .u64 lo) := ((hb2.cell (p := ⟨w.heap.size, 2, none⟩) hz).trans c2); have hz2 : w.heap.size < w2.heap.size := (Nat.lt_of_lt_of_le hz hb2.size)) | (go_at_call 38; refine (plus_any _ _ _ _ _ _ _ (by omega) (by omega) (by omega) (by omega) (by omega) (by omega) (by omega) (by omega) (by omega)).mono ?_; rintro e w3 ⟨b3, h3, k3, rfl, y0, y1, z0, z1, hv3, hb3⟩; have Hv3 := Lib.hid hv3; clear hv3; have g0 : w3.cell? ⟨w.heap.size, 0, none⟩ = some (.bool s) := ((hb3.cell (p := ⟨w.heap.size, 0, none⟩) hz2).trans d0); have g1 : w3.cell? ⟨w.heap.size, 1, none⟩ = some (.int .u64 hi) := ((hb3.cell (p := ⟨w.heap.size, 1, none⟩) hz2).trans d1); have g2 : w3.cell? ⟨w.heap.size, 2, none⟩ = some (.int .u64 lo) := ((hb3.cell (p := ⟨w.heap.size, 2, none⟩) hz2).trans d2); have fr3 : ∀ o, w3.frozen? ⟨w.heap.size, o, none⟩ = false := (fun o => ((hb3.frozen (p := ⟨w.heap.size, o, none⟩) hz2).trans ((hb2.frozen (p := ⟨w.heap.size, o, none⟩) hz).trans (fr o))))))
      all_goals
        have B2 : Below w.heap.size w w2 := hbel.drew.trans (hb2.mono hbel.size)
        have B3 := B2.trans (hb3.mono B2.size)
        have hz3 := Nat.lt_of_lt_of_le hz2 hb3.size
        have hsum : Hid (sgn b3 (h3 * 18446744073709551616 + k3) = sumI (xs.take (k + 1))) := by show _ = _; rw [Hv3.out, Qv.out, hv.out, Hst.out]
        clear c0 c1 c2 d0 d1 d2 hcell fr
        go_wp2_with (fail)
        go_roundw
        case rel => exact ⟨k + 1, b3, h3, k3, by omega, by go_num, by simp [go_sem, g0, g1, g2, fr3], by simp [go_sem, g0, g1, g2, fr3], by simp [go_sem, g0, g1, g2, fr3], by simp [go_sem, fr3], by simp [go_sem]; omega, y0, y1, z0, z1, hsum, ((B3.setCell (by simp) _).setCell (by simp) _).setCell (by simp) _⟩
        case measure => simp [intOf]; omega
    · have hkl : k = len := by omega
      subst hkl
      have hv' : Hid (sgn s (hi * 18446744073709551616 + lo) = sumI xs) := by show _ = _; rw [hv.out, List.take_of_length_le (by rw [Hl.out]; exact Nat.le_refl _)]
      clear hv fr
      go_wp2_with (fail)
      refine (rby_any s hi lo k false _ i0 hi0 l0 l1 (by omega) (by omega) (by omega)).mono ?_
      rintro e w4 ⟨rfl, hb4⟩
      rw [hv'.out, ← Hn.out]
      have B4 := hbel.trans (hb4.mono hbel.size)
      have hfe : fitB (rnd (sumI xs) k false) = fitB (rnd (sumI xs) k false) := rfl
      go_wp2_with (fail)
      refine (rtold_any _ _ _).mono ?_
      rintro e w5 ⟨rfl, rfl⟩
      rw [Hn.out, fitN_of, fitE_of, ← Hn.out, ← He.out]
      go_wp2_with (fail)
      go_ret2
      exact ⟨rfl, B4⟩

theorem rmean_nil (a : Option Addr) (cap : Nat) (w : World) : Calls Try.prog 28 #[.slice a 0 cap] w fun e w' => e = .returned (.tuple #[.int .i64 0, .int .i64 4]) ∧ Below w.heap.size w w' := by
  go_enter Try.func28, Try.ntmps28
  go_wp2_with (fail)
  go_ret2
  exact ⟨rfl, Below.refl _ _⟩

theorem rmean_any (a : Option Addr) (len cap : Nat) (xs : List Int) (w : World) (hx : I64s xs) (hl : xs.length = len) (hm : len ≤ 140737488355328) (hr : IntsAt w a xs) :
    Calls Try.prog 28 #[.slice a len cap] w fun e w' => e = .returned (.tuple #[.int .i64 (mnN xs), .int .i64 (mnE xs)]) ∧ Below w.heap.size w w' := by
  by_cases h0 : 0 < len
  · rcases hr with rfl | ⟨b, off, rfl, hb, hc⟩
    · simp at hl; omega
    · exact rmean_some b off len cap xs w hb hx hl h0 hm hc
  · obtain rfl : len = 0 := by omega
    have e1 : mnN xs = 0 := by simp [mnN, hl]
    have e2 : mnE xs = 4 := by simp [mnE, hl]
    rw [e1, e2]
    exact rmean_nil a cap w
end Go.Proofs.Ytdglclgjiilfkaa
