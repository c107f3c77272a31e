/- The layer num over lists: Plus, Mean, the program's and the reference's: what each call returns; nothing that was there turns. -/
import Derived.Test.YtogdnacambjhpaaRefE
namespace Go.Proofs.Ytogdnacambjhpaa
open Go.RowKit
set_option linter.unusedVariables false
set_option linter.unusedSimpArgs false

/-- All numbers are int64. -/
def I64s (xs : List Int) : Prop := ∀ x ∈ xs, -9223372036854775808 ≤ x ∧ x ≤ 9223372036854775807
/-- The sum, kept within at each step. -/
def keepSum (xs : List Int) : Int := xs.foldl (fun s n => keep (s + n)) 0
/-- The exact sum. -/
def sumI (xs : List Int) : Int := xs.foldl (fun s n => s + n) 0

theorem take_snoc_getD (xs : List Int) (k : Nat) (h : k < xs.length) : xs.take (k + 1) = xs.take k ++ [xs.getD k 0] := by
  rw [List.take_succ_eq_append_getElem h]; simp [List.getD, h]
theorem keepSum_step (xs : List Int) (k : Nat) (h : k < xs.length) : keepSum (xs.take (k + 1)) = keep (keepSum (xs.take k) + xs.getD k 0) := by
  rw [take_snoc_getD xs k h]; simp [keepSum, List.foldl_append]
theorem sumI_step (xs : List Int) (k : Nat) (h : k < xs.length) : sumI (xs.take (k + 1)) = sumI (xs.take k) + xs.getD k 0 := by
  rw [take_snoc_getD xs k h]; simp [sumI, List.foldl_append]
theorem keepSum_bd (xs : List Int) : -9223372036854775808 ≤ keepSum xs ∧ keepSum xs ≤ 9223372036854775807 := by
  rcases List.eq_nil_or_concat xs with h | ⟨l, a, h⟩
  · subst h; simp [keepSum]
  · subst h; rw [List.concat_eq_append]; simp only [keepSum, List.foldl_append, List.foldl_cons, List.foldl_nil]; exact keep_bd _
theorem getD_bd {xs : List Int} (h : I64s xs) (k : Nat) : -9223372036854775808 ≤ xs.getD k 0 ∧ xs.getD k 0 ≤ 9223372036854775807 := by
  by_cases hk : k < xs.length
  · have : xs.getD k 0 = xs[k] := by simp [List.getD, hk]
    rw [this]; exact h _ (List.getElem_mem hk)
  · have : xs.getD k 0 = 0 := by simp [List.getD, hk]
    rw [this]; omega
theorem sumI_bd {xs : List Int} (h : I64s xs) (k : Nat) : -9223372036854775808 * (k : Int) ≤ sumI (xs.take k) ∧ sumI (xs.take k) ≤ 9223372036854775808 * (k : Int) := by
  induction k with
  | zero => simp [sumI]
  | succ k ih =>
    by_cases hk : k < xs.length
    · rw [sumI_step xs k hk]; have := getD_bd h k; omega
    · rw [List.take_of_length_le (by omega)]
      rw [List.take_of_length_le (by omega)] at ih
      omega
theorem keep_edge {s x : Int} (s0 : -9223372036854775808 ≤ s) (s1 : s ≤ 9223372036854775807) (hf : fitB (s + x) = false) : keep (s + x) = edgeV (decide (x < 0)) := by
  have hn : s + x < -9223372036854775808 ∨ 9223372036854775807 < s + x := by
    apply Classical.byContradiction; intro hn
    have := fitB_yes (v := s + x) (by omega) (by omega)
    simp [this] at hf
  by_cases h : x < 0
  · simp only [h, decide_true, edgeV, if_true]; exact keep_below hf (by omega)
  · simp only [h, decide_false, edgeV]; exact keep_above hf (by omega)

/-- Where a slice of int64 reads as a list. -/
def IntsAt (w : World) (a : Option Addr) (xs : List Int) : Prop :=
  xs = [] ∨ ∃ b off, a = some ⟨b, off, none⟩ ∧ b < w.heap.size ∧ ∀ j, j < xs.length → w.cell? ⟨b, off + j, none⟩ = some (.int .i64 (xs.getD j 0))

end Go.Proofs.Ytogdnacambjhpaa
