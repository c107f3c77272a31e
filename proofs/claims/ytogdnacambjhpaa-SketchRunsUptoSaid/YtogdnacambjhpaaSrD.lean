/- SketchRuns: the law. -/
import Derived.Test.YtogdnacambjhpaaSrC
namespace Go.Proofs.Ytogdnacambjhpaa
open Go.RowKit
set_option linter.unusedVariables false

theorem deeds_ofB {w : World} {a : Option Addr} {V : Nat → Nat → Value} : ∀ {len : Nat}, RecsAt w a 4 len V →
    (∀ j, j < len → V j 0 = .int .i64 (intOf (V j 0)) ∧ (Lit.int .i64 (intOf (V j 0))).wf = true) → (∀ j, j < len → V j 1 = .int .i64 (intOf (V j 1)) ∧ (Lit.int .i64 (intOf (V j 1))).wf = true) →
    (∀ j, j < len → V j 2 = .string (strOf (V j 2)) ∧ (strOf (V j 2)).size ≤ maxLen) →
    (∀ j, j < len → ∃ (a : Option Addr) (l c : Nat) (ns : List Int), V j 3 = .slice a l c ∧ ns.length = l ∧ l ≤ 1048576 ∧ IntsAt w a ns) →
    ∃ ds : List DeedS, ds.length = len ∧ DeedsAt w a ds ∧ ∀ d, d ∈ ds → d.ns.length ≤ 1048576 := by
  intro len hr h0 h1 h2 h3
  have hch : ∀ j, ∃ d : DeedS, j < len → (∃ (a' : Option Addr) (l c : Nat), V j 0 = .int .i64 d.kind ∧ V j 1 = .int .i64 d.at_ ∧ V j 2 = .string d.key ∧ V j 3 = .slice a' l c ∧ d.ns.length = l ∧ l ≤ 1048576 ∧ IntsAt w a' d.ns ∧ d.key.size ≤ maxLen) := fun j => by
    by_cases hj : j < len
    · obtain ⟨a', l, c, ns, e3, hl, hl2, hn⟩ := h3 j hj
      exact ⟨⟨intOf (V j 0), intOf (V j 1), strOf (V j 2), ns⟩, fun _ => ⟨a', l, c, (h0 j hj).1, (h1 j hj).1, (h2 j hj).1, e3, hl, hl2, hn, (h2 j hj).2⟩⟩
    · exact ⟨⟨0, 0, ⟨#[]⟩, []⟩, fun h => absurd h hj⟩
  obtain ⟨f, hf⟩ := Classical.axiomOfChoice hch
  refine ⟨(List.range len).map f, by simp, ?_, fun d hd => ?_⟩
  · rcases hr with h | ⟨b, off, rfl, hb, hc⟩
    · subst h; exact Or.inl rfl
    · refine Or.inr ⟨b, off, rfl, hb, fun j d hd => ?_⟩
      have hj : j < len := by have := (List.getElem?_eq_some_iff.1 hd).1; simpa using this
      obtain rfl : f j = d := by simpa [hj] using hd
      obtain ⟨a', l, c, e0, e1, e2, e3, hl, hl2, hn, hk⟩ := hf j hj
      have hcell := hc j hj
      have c0 := hcell 0 (by omega)
      have c1 := hcell 1 (by omega)
      have c2 := hcell 2 (by omega)
      have c3 := hcell 3 (by omega)
      rw [e0] at c0
      rw [e1, show off + (j * 4 + 1) = off + j * 4 + 1 by omega] at c1
      rw [e2, show off + (j * 4 + 2) = off + j * 4 + 2 by omega] at c2
      rw [e3, show off + (j * 4 + 3) = off + j * 4 + 3 by omega] at c3
      exact ⟨a', l, c, c0, c1, c2, c3, hl, by omega, hn, hk⟩
  · obtain ⟨j, hj, rfl⟩ := List.mem_map.1 hd
    obtain ⟨a', l, c, e0, e1, e2, e3, hl, hl2, hn, hk⟩ := hf j (List.mem_range.1 hj)
    omega
set_option linter.unusedSimpArgs false in
theorem sruns_law {w : World} (W : Int) (wW : (Lit.int .i64 W).wf = true) (B : Int) (wB : (Lit.int .i64 B).wf = true) (R : Int) (wR : (Lit.int .i64 R).wf = true) (C : Int) (wC : (Lit.int .i64 C).wf = true) (seed : Int) (ws : (Lit.int .u64 seed).wf = true)
    (a : Option Addr) (len cap : Nat) (V : Nat → Nat → Value) (hm : len ≤ 1048576) (hr : RecsAt w a 4 len V)
    (h0 : ∀ j, j < len → V j 0 = .int .i64 (intOf (V j 0)) ∧ (Lit.int .i64 (intOf (V j 0))).wf = true) (h1 : ∀ j, j < len → V j 1 = .int .i64 (intOf (V j 1)) ∧ (Lit.int .i64 (intOf (V j 1))).wf = true)
    (h2 : ∀ j, j < len → V j 2 = .string (strOf (V j 2)) ∧ (strOf (V j 2)).size ≤ maxLen)
    (h3 : ∀ j, j < len → ∃ (a : Option Addr) (l c : Nat) (ns : List Int), V j 3 = .slice a l c ∧ ns.length = l ∧ l ≤ 1048576 ∧ IntsAt w a ns) :
    Calls Try.prog 6 #[.agg #[.int .i64 W, .int .i64 B, .int .i64 R, .int .i64 C, .int .u64 seed], .slice a len cap] w fun e w' => e = .returned (.bool true) ∧ Below w.heap.size w w' := by
  obtain ⟨ds, hl, hd, hn⟩ := deeds_ofB hr h0 h1 h2 h3
  simp only [Lit.wf, IntKind.min, IntKind.max, IntKind.signed, IntKind.bits, Bool.and_eq_true, decide_eq_true_eq] at ws
  exact sruns_walk w ⟨W, B, R, C, seed⟩ (by simpa using ws.1) (by simpa using ws.2) a len cap ds hl hm hd hn
end Go.Proofs.Ytogdnacambjhpaa
