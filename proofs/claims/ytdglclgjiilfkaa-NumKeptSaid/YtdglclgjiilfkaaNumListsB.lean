/- The layer num over lists: the reference's Plus and Mean: what each call returns; nothing that was there turns. -/
import Derived.Test.YtdglclgjiilfkaaNumLists
namespace Go.Proofs.Ytdglclgjiilfkaa
open Go.RowKit
set_option linter.unusedVariables false
set_option linter.unusedSimpArgs false

set_option maxHeartbeats 1600000 in
theorem rplusl_some (b off len cap : Nat) (xs : List Int) (w : World) (hb : b < w.heap.size) (hx : I64s xs) (hl : xs.length = len) (hm : len ≤ 140737488355328) (hc : ∀ j, j < xs.length → w.cell? ⟨b, off + j, none⟩ = some (.int .i64 (xs.getD j 0))) :
    Calls Try.prog 30 #[.slice (some ⟨b, off, none⟩) len cap] w fun e w' => e = .returned (.int .i64 (keepSum xs)) ∧ Below w.heap.size w w' := by
  have Hc := Lib.hid hc
  have Hl := Lib.hid hl
  clear hc hl
  go_enter Try.func30, Try.ntmps30
  go_wp2_with (fail)
  go_loopw [3, 4] (fun s i wr => ∃ k : Nat, k ≤ len ∧ i = .int .i64 k ∧ s = .int .i64 (keepSum (xs.take k)) ∧ Below w.heap.size w wr) (fun _ i _ => len - (intOf i).toNat)
  case atStart => exact ⟨0, Nat.zero_le _, rfl, rfl, Below.refl _ _⟩
  case round =>
    obtain ⟨k, hk, rfl, rfl, hbel⟩ := hrel
    obtain ⟨s0, s1⟩ := keepSum_bd (xs.take k)
    obtain ⟨x0, x1⟩ := getD_bd hx k
    by_cases hlt : k < len
    · have Hst := Lib.hid (keepSum_step xs k (by rw [Hl.out]; exact hlt))
      have hcell : wr.cell? ⟨b, off + k, none⟩ = some (.int .i64 (xs.getD k 0)) := (hbel.cell (p := ⟨b, off + k, none⟩) hb).trans (Hc.out k (by rw [Hl.out]; exact hlt))
      have hbw : b < wr.heap.size := Nat.lt_of_lt_of_le hb hbel.size
      generalize hS : keepSum (xs.take k) = S at *
      generalize hX : xs.getD k 0 = X at *
      clear hS hX
      have k0 : (0 : Int) ≤ k := by omega
      have k1 : (k : Int) < len := by omega
      go_wp2_with (fail)
      go_region_with (first | (go_at_call_of 37 S; refine (of_wide S _ s0 s1).mono ?_; rintro e w1 ⟨p, ph, pl, rfl, p0, p1, p2, p3, pv, hb1⟩; have ph0 := wide_small p0 p2 p3 pv (by omega) (by omega); have Pv := Lib.hid pv; clear pv; have hcell1 : w1.cell? ⟨b, off + k, none⟩ = some (.int .i64 X) := ((hb1.cell (p := ⟨b, off + k, none⟩) hbw).trans hcell); have hz1 := hb1.size) | (go_at_call_of 37 X; refine (of_wide X _ x0 x1).mono ?_; rintro e w2 ⟨q, qh, ql, rfl, q0, q1, q2, q3, qv, hb2⟩; have qh0 := wide_small q0 q2 q3 qv (by omega) (by omega); have Qv := Lib.hid qv; clear qv; have hz2 := hb2.size) | (go_at_call 38; refine (plus_any _ _ _ _ _ _ _ (by omega) (by omega) (by omega) (by omega) (by omega) (by omega) (by omega) (by omega) (by omega)).mono ?_; rintro e w3 ⟨b3, h3, k3, rfl, y0, y1, z0, z1, hv, hb3⟩; have Hv3 := Lib.hid hv; clear hv; have hz3 := hb3.size) | (go_at_call 35; refine (kept_any _ _ _ _ (by omega) (by omega) (by omega) (by omega)).mono ?_; rintro e w4 ⟨rfl, hb4⟩))
      all_goals
        have e4 := Lib.hid (show sgn b3 (h3 * 18446744073709551616 + k3) = S + X by rw [Hv3.out, Qv.out, Pv.out])
        rw [e4.out, ← Hst.out]
        have B1 : Below w.heap.size w w1 := hbel.drew.trans (hb1.mono hbel.size)
        have B2 := B1.trans (hb2.mono B1.size)
        have B3 := B2.trans (hb3.mono B2.size)
        have B4 := B3.trans (hb4.mono B3.size)
        clear hcell hcell1
        go_wp2_with (fail)
        go_roundw
        case rel => exact ⟨k + 1, by omega, by go_num, rfl, B4⟩
        case measure => simp [intOf]; omega
    · have hkl : k = len := by omega
      subst hkl
      go_wp2_with (fail)
      go_ret
      exact ⟨ret_int (by rw [List.take_of_length_le (by rw [Hl.out]; exact Nat.le_refl _)]), hbel⟩

theorem rplusl_nil (a : Option Addr) (cap : Nat) (w : World) : Calls Try.prog 30 #[.slice a 0 cap] w fun e w' => e = .returned (.int .i64 0) ∧ Below w.heap.size w w' := by
  go_enter Try.func30, Try.ntmps30
  go_wp2_with (fail)
  go_loop [3, 4] (fun s i => i = .int .i64 0 ∧ s = .int .i64 0) (fun _ _ => 0)
  case atStart => exact ⟨rfl, rfl⟩
  case round =>
    obtain ⟨rfl, rfl⟩ := hrel
    go_wp2
    go_ret
    exact ⟨rfl, Below.refl _ _⟩

theorem rplusl_any (a : Option Addr) (len cap : Nat) (xs : List Int) (w : World) (hx : I64s xs) (hl : xs.length = len) (hm : len ≤ 140737488355328) (hr : IntsAt w a xs) :
    Calls Try.prog 30 #[.slice a len cap] w fun e w' => e = .returned (.int .i64 (keepSum xs)) ∧ Below w.heap.size w w' := by
  rcases hr with rfl | ⟨b, off, rfl, hb, hc⟩
  · simp at hl; subst hl
    exact rplusl_nil a cap w
  · exact rplusl_some b off len cap xs w hb hx hl hm hc
end Go.Proofs.Ytdglclgjiilfkaa
