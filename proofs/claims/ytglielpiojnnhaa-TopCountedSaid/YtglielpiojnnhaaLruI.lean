/- lru: Put, whole; live. -/
import Derived.Test.YtglielpiojnnhaaLruH
namespace Go.Proofs.Ytglielpiojnnhaa
open Go.RowKit
set_option linter.unusedVariables false
set_option linter.unusedSimpArgs false

theorem lput_any {w : World} {m mp most : Nat} {L : List LNode} (h : Lru w m mp most L) {s : ByteArray} (hs : s.size ≤ maxLen) (v : Int) :
    Calls Try.prog 7 #[.pointer (some ⟨m, 0, none⟩), .string s, .int .i64 v] w fun e w' => ∃ L', e = .returned (.tuple #[.string (goneA most (pr L) s), .bool (wentA most (pr L) s), .int .i64 0]) ∧ Lru w' m mp most L' ∧ pr L' = putA most (pr L) s v ∧ Off (Lown m mp L) w w' ∧ (∀ b, Lown m mp L' b → Lown m mp L b ∨ w.heap.size ≤ b) := by
  cases hlk : look L s with
  | some x =>
    obtain ⟨n1, _⟩ := hasA_yes hlk
    obtain ⟨hx, rfl⟩ := look_in hlk
    obtain ⟨A, C, rfl⟩ := split_at hx
    refine (lput_old h v).mono ?_
    rintro e w' ⟨rfl, h1, h2⟩
    refine ⟨A ++ C ++ [⟨x.b, x.k, v⟩], ?_, h1, ?_, h2, fun b hb => Or.inl (moved_own (x := x) (y := ⟨x.b, x.k, v⟩) rfl hb)⟩
    · simp [goneA, wentA, n1]
    · rw [putA, n1, if_pos rfl, ← del_pr h.body.keys]
      simp [pr]
  | none =>
    obtain ⟨n1, _⟩ := hasA_no hlk
    by_cases hf : L.length = most
    · cases L with
      | nil => have := h.big; simp at hf; omega
      | cons x C =>
        refine (lput_full h hs v hlk hf).mono ?_
        rintro e w' ⟨rfl, L', h1, h2, h3, h4⟩
        refine ⟨L', ?_, h1, ?_, h3, h4⟩
        · have hf' : (pr (x :: C)).length = most := by rw [pr_len]; exact hf
          rw [goneA, wentA, n1, hf']
          simp [pr]
        · have hf' : (pr (x :: C)).length = most := by rw [pr_len]; exact hf
          rw [putA, n1, hf', h2]
          simp [pr]
    · refine (lput_new h hs v hlk hf).mono ?_
      rintro e w' ⟨rfl, h1, h2⟩
      have hf' : (pr L).length ≠ most := by rw [pr_len]; exact hf
      refine ⟨_, ?_, h1, ?_, h2, fun b hb => ?_⟩
      · simp [goneA, wentA, n1, hf']
      · rw [putA, n1, if_neg (by simp), if_neg hf']
        simp [pr]
      · rcases hb with h | h | h
        · exact Or.inl (Or.inl h)
        · exact Or.inl (Or.inr (Or.inl h))
        · simp only [List.map_append, List.map_cons, List.map_nil, List.mem_append, List.mem_singleton] at h
          rcases h with h | h
          · exact Or.inl (Or.inr (Or.inr h))
          · right; omega

theorem below_off {B : Nat} {w a b : World} {S : Nat → Prop} (h : Below B w a) (hB : B ≤ a.heap.size) (k : Off S a b) (hS : ∀ i, S i → B ≤ i) : Below B w b :=
  h.trans (k.below hB (fun i hi hs => by have := hS i hs; omega))
theorem own_empty {m mp base : Nat} (h1 : base ≤ m) (h2 : base ≤ mp) : ∀ b, Lown m mp [] b → base ≤ b := by
  intro b hb
  rcases hb with h | h | h
  · omega
  · omega
  · simp at h
theorem own_next {m mp base : Nat} {L L' : List LNode} {w : World} (h : ∀ b, Lown m mp L b → base ≤ b) (hw : base ≤ w.heap.size) (hs : ∀ b, Lown m mp L' b → Lown m mp L b ∨ w.heap.size ≤ b) : ∀ b, Lown m mp L' b → base ≤ b := by
  intro b hb
  rcases hs b hb with h1 | h1
  · exact h b h1
  · omega

end Go.Proofs.Ytglielpiojnnhaa
