/- The laws of the layer warmup: WarmSlowest. -/
import Derived.Test.YtfcmacibblkdkaaWarmD
import Derived.Test.YtfcmacibblkdkaaMemInts
namespace Go.Proofs.Ytfcmacibblkdkaa
open Go.RowKit
set_option linter.unusedVariables false
set_option linter.unusedSimpArgs false

def slowStep (l n : Int) : Int := if n ≤ 0 then l else if l = 0 ∨ max (n / 3) 1 < l then max (n / 3) 1 else l
def slowN (xs : List Int) : Int := xs.foldl slowStep 0
theorem slow_step (xs : List Int) (k : Nat) (h : k < xs.length) : slowN (xs.take (k + 1)) = slowStep (slowN (xs.take k)) (xs.getD k 0) := by
  rw [take_snoc_getD xs k h, slowN, List.foldl_append]; rfl

set_option maxHeartbeats 800000 in
theorem wslow_some (b off len cap : Nat) (xs : List Int) (w : World) (hx : I64s xs) (hl : xs.length = len) (hm : len ≤ 140737488355328) (hc : ∀ j, j < xs.length → w.cell? ⟨b, off + j, none⟩ = some (.int .i64 (xs.getD j 0))) :
    Calls Try.prog 24 #[.slice (some ⟨b, off, none⟩) len cap] w fun e w' => e = .returned (.int .i64 (slowN xs)) ∧ w = w' := by
  have Hc := Lib.hid hc
  have Hl := Lib.hid hl
  clear hc hl
  go_enter Try.func24, Try.ntmps24
  go_wp2
  go_loop [3, 9] (fun s i => ∃ k : Nat, k ≤ len ∧ i = .int .i64 k ∧ s = .int .i64 (slowN (xs.take k))) (fun _ i => len - (intOf i).toNat)
  case atStart => exact ⟨0, Nat.zero_le _, rfl, rfl⟩
  case round =>
    obtain ⟨k, hk, rfl, rfl⟩ := hrel
    obtain ⟨x0, x1⟩ := getD_bd hx k
    by_cases hlt : k < len
    · have Hst := Lib.hid (slow_step xs k (by rw [Hl.out]; exact hlt))
      have hcell := Hc.out k (by rw [Hl.out]; exact hlt)
      generalize hS : slowN (xs.take k) = S at *
      generalize hX : xs.getD k 0 = X at *
      clear hS hX
      by_cases h0 : X ≤ 0
      · have Hs := Lib.hid (show slowStep S X = S by unfold slowStep; rw [if_pos h0])
        go_wp2_with (fail)
        go_round
        case rel => exact ⟨k + 1, by omega, by go_num, by rw [Hst.out, Hs.out]⟩
        case measure => simp [intOf]; omega
      · have q0 : 0 ≤ X / 3 := by omega
        obtain ⟨R, hR⟩ : ∃ v, max (X / 3) 1 = v := ⟨_, rfl⟩
        by_cases h1 : S = 0
        · have Hs := Lib.hid (show slowStep S X = R by unfold slowStep; rw [if_neg h0, if_pos (Or.inl h1), hR])
          go_wp2_with (fail)
          go_round
          case rel => exact ⟨k + 1, by omega, by go_num, by rw [Hst.out, Hs.out]⟩
          case measure => simp [intOf]; omega
        · by_cases h2 : R < S
          · have Hs := Lib.hid (show slowStep S X = R by unfold slowStep; rw [if_neg h0, hR, if_pos (Or.inr h2)])
            go_wp2_with (fail)
            go_round
            case rel => exact ⟨k + 1, by omega, by go_num, by rw [Hst.out, Hs.out]⟩
            case measure => simp [intOf]; omega
          · have Hs := Lib.hid (show slowStep S X = S by unfold slowStep; rw [if_neg h0, hR, if_neg (by omega)])
            go_wp2_with (fail)
            go_round
            case rel => exact ⟨k + 1, by omega, by go_num, by rw [Hst.out, Hs.out]⟩
            case measure => simp [intOf]; omega
    · have hkl : k = len := by omega
      subst hkl
      go_wp2_with (fail)
      go_ret
      exact ⟨ret_int (by rw [List.take_of_length_le (by rw [Hl.out]; exact Nat.le_refl _)]), rfl⟩

theorem wslow_nil (a : Option Addr) (cap : Nat) (w : World) : Calls Try.prog 24 #[.slice a 0 cap] w fun e w' => e = .returned (.int .i64 0) ∧ w = w' := by
  go_enter Try.func24, Try.ntmps24
  go_wp2
  go_loop [3, 9] (fun s i => i = .int .i64 0 ∧ s = .int .i64 0) (fun _ _ => 0)
  case atStart => exact ⟨rfl, rfl⟩
  case round =>
    obtain ⟨rfl, rfl⟩ := hrel
    go_wp2
    go_ret
    exact ⟨rfl, rfl⟩

theorem wslow_any (a : Option Addr) (len cap : Nat) (xs : List Int) (w : World) (hx : I64s xs) (hl : xs.length = len) (hm : len ≤ 140737488355328) (hr : IntsAt w a xs) :
    Calls Try.prog 24 #[.slice a len cap] w fun e w' => e = .returned (.int .i64 (slowN xs)) ∧ w = w' := by
  rcases hr with rfl | ⟨b, off, rfl, _, hc⟩
  · simp at hl; subst hl
    exact wslow_nil a cap w
  · exact wslow_some b off len cap xs w hx hl hm hc

set_option maxHeartbeats 800000 in
theorem rslow_some (b off len cap : Nat) (xs : List Int) (w : World) (hx : I64s xs) (hl : xs.length = len) (hm : len ≤ 140737488355328) (hc : ∀ j, j < xs.length → w.cell? ⟨b, off + j, none⟩ = some (.int .i64 (xs.getD j 0))) :
    Calls Try.prog 25 #[.slice (some ⟨b, off, none⟩) len cap] w fun e w' => e = .returned (.int .i64 (slowN xs)) ∧ w = w' := by
  have Hc := Lib.hid hc
  have Hl := Lib.hid hl
  clear hc hl
  go_enter Try.func25, Try.ntmps25
  go_wp2
  go_loop [3, 4] (fun s i => ∃ k : Nat, k ≤ len ∧ i = .int .i64 k ∧ s = .int .i64 (slowN (xs.take k))) (fun _ i => len - (intOf i).toNat)
  case atStart => exact ⟨0, Nat.zero_le _, rfl, rfl⟩
  case round =>
    obtain ⟨k, hk, rfl, rfl⟩ := hrel
    obtain ⟨x0, x1⟩ := getD_bd hx k
    by_cases hlt : k < len
    · have Hst := Lib.hid (slow_step xs k (by rw [Hl.out]; exact hlt))
      have hcell := Hc.out k (by rw [Hl.out]; exact hlt)
      generalize hS : slowN (xs.take k) = S at *
      generalize hX : xs.getD k 0 = X at *
      clear hS hX
      have k0 : (0 : Int) ≤ k := by omega
      have k1 : (k : Int) < len := by omega
      by_cases h0 : X ≤ 0
      · have Hs := Lib.hid (show slowStep S X = S by unfold slowStep; rw [if_pos h0])
        go_wp2_with (fail)
        go_round
        case rel => exact ⟨k + 1, by omega, by go_num, by rw [Hst.out, Hs.out]⟩
        case measure => simp [intOf]; omega
      · obtain ⟨Q, hQ⟩ : ∃ v, X / 3 = v := ⟨_, rfl⟩
        have q0 : 0 ≤ Q := by omega
        by_cases hq : Q < 1
        · have hq0 : Q = 0 := by omega
          subst hq0
          by_cases h1 : S = 0
          · have Hs := Lib.hid (show slowStep S X = 1 by unfold slowStep; rw [if_neg h0, hQ, if_pos (Or.inl h1)]; rfl)
            go_wp2_with (fail)
            go_round
            case rel => exact ⟨k + 1, by omega, by go_num, by rw [Hst.out, Hs.out]⟩
            case measure => simp [intOf]; omega
          · by_cases h2 : 1 < S
            · have Hs := Lib.hid (show slowStep S X = 1 by unfold slowStep; rw [if_neg h0, hQ, if_pos (Or.inr (by omega))]; rfl)
              go_wp2_with (fail)
              go_round
              case rel => exact ⟨k + 1, by omega, by go_num, by rw [Hst.out, Hs.out]⟩
              case measure => simp [intOf]; omega
            · have Hs := Lib.hid (show slowStep S X = S by unfold slowStep; rw [if_neg h0, hQ, if_neg (by omega)])
              go_wp2_with (fail)
              go_round
              case rel => exact ⟨k + 1, by omega, by go_num, by rw [Hst.out, Hs.out]⟩
              case measure => simp [intOf]; omega
        · have hR : max Q 1 = Q := by omega
          by_cases h1 : S = 0
          · have Hs := Lib.hid (show slowStep S X = Q by unfold slowStep; rw [if_neg h0, hQ, if_pos (Or.inl h1), hR])
            go_wp2_with (fail)
            go_round
            case rel => exact ⟨k + 1, by omega, by go_num, by rw [Hst.out, Hs.out]; first | done | rw [hQ]⟩
            case measure => simp [intOf]; omega
          · by_cases h2 : Q < S
            · have Hs := Lib.hid (show slowStep S X = Q by unfold slowStep; rw [if_neg h0, hQ, if_pos (Or.inr (by omega)), hR])
              go_wp2_with (fail)
              go_round
              case rel => exact ⟨k + 1, by omega, by go_num, by rw [Hst.out, Hs.out]⟩
              case measure => simp [intOf]; omega
            · have Hs := Lib.hid (show slowStep S X = S by unfold slowStep; rw [if_neg h0, hQ, if_neg (by omega)])
              go_wp2_with (fail)
              go_round
              case rel => exact ⟨k + 1, by omega, by go_num, by rw [Hst.out, Hs.out]⟩
              case measure => simp [intOf]; omega
    · have hkl : k = len := by omega
      subst hkl
      go_wp2_with (fail)
      go_ret
      exact ⟨ret_int (by rw [List.take_of_length_le (by rw [Hl.out]; exact Nat.le_refl _)]), rfl⟩

theorem rslow_nil (a : Option Addr) (cap : Nat) (w : World) : Calls Try.prog 25 #[.slice a 0 cap] w fun e w' => e = .returned (.int .i64 0) ∧ w = w' := by
  go_enter Try.func25, Try.ntmps25
  go_wp2
  go_loop [3, 4] (fun s i => i = .int .i64 0 ∧ s = .int .i64 0) (fun _ _ => 0)
  case atStart => exact ⟨rfl, rfl⟩
  case round =>
    obtain ⟨rfl, rfl⟩ := hrel
    go_wp2
    go_ret
    exact ⟨rfl, rfl⟩

theorem rslow_any (a : Option Addr) (len cap : Nat) (xs : List Int) (w : World) (hx : I64s xs) (hl : xs.length = len) (hm : len ≤ 140737488355328) (hr : IntsAt w a xs) :
    Calls Try.prog 25 #[.slice a len cap] w fun e w' => e = .returned (.int .i64 (slowN xs)) ∧ w = w' := by
  rcases hr with rfl | ⟨b, off, rfl, _, hc⟩
  · simp at hl; subst hl
    exact rslow_nil a cap w
  · exact rslow_some b off len cap xs w hx hl hm hc

set_option maxHeartbeats 1600000 in
theorem wslowest_walk (w : World) (a : Option Addr) (len cap : Nat) (xs : List Int) (hl : xs.length = len) (hm : len * 8 ≤ 140737488351232) (hx : I64s xs) (hr : IntsAt w a xs) (h0 : 0 < len → a ≠ none) (hn : a = none → cap = 0) :
    Calls Try.prog 8 #[.slice a len cap] w fun e w' => e = .returned (.bool true) ∧ Below w.heap.size w w' := by
  have Hr := Lib.hid hr
  have Hl := Lib.hid hl
  have hm' : len ≤ 140737488355328 := by omega
  clear hr hl h0 hn
  go_enter Try.func8, Try.ntmps8
  go_wp2_with (fail)
  refine (hand_any a len cap xs _ Hl.out hm Hr.out).mono ?_
  rintro e w1 ⟨g, rfl, hg, hh, hb1⟩
  have HH := Lib.hid hh
  clear hh
  go_wp2_with (fail)
  refine (wlive_any _).mono ?_
  rintro e w2 ⟨rfl, hb2⟩
  have B2 := hb1.trans (hb2.mono hb1.size)
  have H2 := Lib.hid (HH.out.below hb2)
  have R2 := Lib.hid (Hr.out.below B2)
  go_wp2_with (fail)
  refine (wslow_any (some ⟨g, 0, none⟩) len (len + 9) xs _ hx Hl.out hm' H2.out.ints).mono ?_
  rintro e w3 ⟨rfl, rfl⟩
  go_wp2_with (fail)
  refine (rslow_any a len cap xs _ hx Hl.out hm' R2.out).mono ?_
  rintro e w3 ⟨rfl, rfl⟩
  generalize slowN xs = SL at *
  go_wp2_with (fail)
  refine (kept_ints a g len cap xs _ Hl.out hm H2.out R2.out).mono ?_
  rintro e w4 ⟨rfl, hb4⟩
  have B4 := B2.trans (hb4.mono B2.size)
  go_wp2_with (fail)
  refine (wslow_nil _ _ _).mono ?_
  rintro e w5 ⟨rfl, rfl⟩
  go_wp2_with (fail)
  go_ret
  exact ⟨rfl, B4⟩
end Go.Proofs.Ytfcmacibblkdkaa
