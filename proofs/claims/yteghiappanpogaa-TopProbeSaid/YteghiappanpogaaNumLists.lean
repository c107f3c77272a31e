/- The layer num over lists: Plus, Mean, the program's and the reference's: what each call returns; nothing that was there turns. -/
import Derived.Test.YteghiappanpogaaRefE
namespace Go.Proofs.Yteghiappanpogaa
open Go.RowKit
set_option linter.unusedVariables false
set_option linter.unusedSimpArgs false

/-- All numbers are int64. -/
def I64s (xs : List Int) : Prop := ∀ x ∈ xs, -9223372036854775808 ≤ x ∧ x ≤ 9223372036854775807
/-- The sum, kept within at each step. -/
def keepSum (xs : List Int) : Int := xs.foldl (fun s n => keep (s + n)) 0
/-- The exact sum. -/
def sumI (xs : List Int) : Int := xs.foldl (fun s n => s + n) 0

theorem take_snoc_getD (xs : List Int) (k : Nat) (h : k < xs.length) : xs.take (k + 1) = xs.take k ++ [xs.getD k 0] := by
  rw [List.take_succ_eq_append_getElem h]; simp [List.getD, h]
theorem keepSum_step (xs : List Int) (k : Nat) (h : k < xs.length) : keepSum (xs.take (k + 1)) = keep (keepSum (xs.take k) + xs.getD k 0) := by
  rw [take_snoc_getD xs k h]; simp [keepSum, List.foldl_append]
theorem sumI_step (xs : List Int) (k : Nat) (h : k < xs.length) : sumI (xs.take (k + 1)) = sumI (xs.take k) + xs.getD k 0 := by
  rw [take_snoc_getD xs k h]; simp [sumI, List.foldl_append]
theorem keepSum_bd (xs : List Int) : -9223372036854775808 ≤ keepSum xs ∧ keepSum xs ≤ 9223372036854775807 := by
  rcases List.eq_nil_or_concat xs with h | ⟨l, a, h⟩
  · subst h; simp [keepSum]
  · subst h; rw [List.concat_eq_append]; simp only [keepSum, List.foldl_append, List.foldl_cons, List.foldl_nil]; exact keep_bd _
theorem getD_bd {xs : List Int} (h : I64s xs) (k : Nat) : -9223372036854775808 ≤ xs.getD k 0 ∧ xs.getD k 0 ≤ 9223372036854775807 := by
  by_cases hk : k < xs.length
  · have : xs.getD k 0 = xs[k] := by simp [List.getD, hk]
    rw [this]; exact h _ (List.getElem_mem hk)
  · have : xs.getD k 0 = 0 := by simp [List.getD, hk]
    rw [this]; omega
theorem sumI_bd {xs : List Int} (h : I64s xs) (k : Nat) : -9223372036854775808 * (k : Int) ≤ sumI (xs.take k) ∧ sumI (xs.take k) ≤ 9223372036854775808 * (k : Int) := by
  induction k with
  | zero => simp [sumI]
  | succ k ih =>
    by_cases hk : k < xs.length
    · rw [sumI_step xs k hk]; have := getD_bd h k; omega
    · rw [List.take_of_length_le (by omega)]
      rw [List.take_of_length_le (by omega)] at ih
      omega
theorem keep_edge {s x : Int} (s0 : -9223372036854775808 ≤ s) (s1 : s ≤ 9223372036854775807) (hf : fitB (s + x) = false) : keep (s + x) = edgeV (decide (x < 0)) := by
  have hn : s + x < -9223372036854775808 ∨ 9223372036854775807 < s + x := by
    apply Classical.byContradiction; intro hn
    have := fitB_yes (v := s + x) (by omega) (by omega)
    simp [this] at hf
  by_cases h : x < 0
  · simp only [h, decide_true, edgeV, if_true]; exact keep_below hf (by omega)
  · simp only [h, decide_false, edgeV]; exact keep_above hf (by omega)

/-- Where a slice of int64 reads as a list. -/
def IntsAt (w : World) (a : Option Addr) (xs : List Int) : Prop :=
  xs = [] ∨ ∃ b off, a = some ⟨b, off, none⟩ ∧ b < w.heap.size ∧ ∀ j, j < xs.length → w.cell? ⟨b, off + j, none⟩ = some (.int .i64 (xs.getD j 0))

set_option maxHeartbeats 800000 in
theorem plusl_some (b off len cap : Nat) (xs : List Int) (w : World) (hx : I64s xs) (hl : xs.length = len) (hm : len ≤ 140737488355328) (hc : ∀ j, j < xs.length → w.cell? ⟨b, off + j, none⟩ = some (.int .i64 (xs.getD j 0))) :
    Calls Try.prog 33 #[.slice (some ⟨b, off, none⟩) len cap] w fun e w' => e = .returned (.int .i64 (keepSum xs)) ∧ w = w' := by
  have Hc := Lib.hid hc
  have Hl := Lib.hid hl
  clear hc hl
  go_enter Try.func33, Try.ntmps33
  go_wp2
  go_loop [3, 10] (fun s i => ∃ k : Nat, k ≤ len ∧ i = .int .i64 k ∧ s = .int .i64 (keepSum (xs.take k))) (fun _ i => len - (intOf i).toNat)
  case atStart => exact ⟨0, Nat.zero_le _, rfl, rfl⟩
  case round =>
    obtain ⟨k, hk, rfl, rfl⟩ := hrel
    obtain ⟨s0, s1⟩ := keepSum_bd (xs.take k)
    obtain ⟨x0, x1⟩ := getD_bd hx k
    by_cases hlt : k < len
    · have Hst := Lib.hid (keepSum_step xs k (by rw [Hl.out]; exact hlt))
      have hcell := Hc.out k (by rw [Hl.out]; exact hlt)
      generalize hS : keepSum (xs.take k) = S at *
      generalize hX : xs.getD k 0 = X at *
      clear hS hX
      cases hf : fitB (S + X) with
      | true =>
        have e1 := Lib.hid (fitN_yes hf)
        have e2 := Lib.hid (fitE_yes hf)
        have e3 := Lib.hid (keep_fit hf)
        clear hf
        go_wp2_with (fail)
        refine (add_any S X _ s0 s1 x0 x1).mono ?_
        rintro e w' ⟨rfl, rfl⟩
        rw [e1.out, e2.out]
        go_wp2_with (fail)
        go_round
        case rel => exact ⟨k + 1, by omega, by go_num, by rw [Hst.out, e3.out]⟩
        case measure => simp [intOf]; omega
      | false =>
        have e1 := Lib.hid (fitN_no hf)
        have e2 := Lib.hid (fitE_no hf)
        have e3 := Lib.hid (keep_edge s0 s1 hf)
        clear hf
        go_wp2_with (fail)
        refine (add_any S X _ s0 s1 x0 x1).mono ?_
        rintro e w' ⟨rfl, rfl⟩
        rw [e1.out, e2.out]
        go_wp2_with (fail)
        refine (edge_any _ _).mono ?_
        rintro e w' ⟨rfl, rfl⟩
        rw [← e3.out]
        go_wp2_with (fail)
        go_round
        case rel => exact ⟨k + 1, by omega, by go_num, by rw [Hst.out]⟩
        case measure => simp [intOf]; omega
    · have hkl : k = len := by omega
      subst hkl
      go_wp2_with (fail)
      go_ret
      exact ⟨ret_int (by rw [List.take_of_length_le (by rw [Hl.out]; exact Nat.le_refl _)]), rfl⟩

theorem plusl_nil (a : Option Addr) (cap : Nat) (w : World) : Calls Try.prog 33 #[.slice a 0 cap] w fun e w' => e = .returned (.int .i64 0) ∧ w = w' := by
  go_enter Try.func33, Try.ntmps33
  go_wp2
  go_loop [3, 10] (fun s i => i = .int .i64 0 ∧ s = .int .i64 0) (fun _ _ => 0)
  case atStart => exact ⟨rfl, rfl⟩
  case round =>
    obtain ⟨rfl, rfl⟩ := hrel
    go_wp2
    go_ret
    exact ⟨rfl, rfl⟩

theorem plusl_any (a : Option Addr) (len cap : Nat) (xs : List Int) (w : World) (hx : I64s xs) (hl : xs.length = len) (hm : len ≤ 140737488355328) (hr : IntsAt w a xs) :
    Calls Try.prog 33 #[.slice a len cap] w fun e w' => e = .returned (.int .i64 (keepSum xs)) ∧ w = w' := by
  rcases hr with rfl | ⟨b, off, rfl, _, hc⟩
  · simp at hl; subst hl
    exact plusl_nil a cap w
  · exact plusl_some b off len cap xs w hx hl hm hc
end Go.Proofs.Yteghiappanpogaa
