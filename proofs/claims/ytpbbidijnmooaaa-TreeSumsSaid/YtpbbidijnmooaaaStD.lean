/- stat: Mean; what must be whatever is asked. -/
import Derived.Test.YtpbbidijnmooaaaStC
namespace Go.Proofs.Ytpbbidijnmooaaa
open Go.RowKit
set_option linter.unusedVariables false
set_option linter.unusedSimpArgs false

theorem below_drewG {n : Nat} {a w : World} (h : Below n a w) (q : Nat) : Below n a (w.drewN q) := ⟨h.os, h.tape, h.output, h.size, h.block⟩
theorem madeN_q (N : Nat) : (madeN N).q = N + 4 := rfl
theorem ints_one (w : World) (n : Int) : IntsAt (w.alloc (.cells #[.int .i64 n] 3)) (some ⟨w.heap.size, 0, none⟩) [n] := by
  have hn : (w.alloc (.cells #[.int .i64 n] 3)).heap[w.heap.size]? = some (.cells #[.int .i64 n] 3) := (get_allocW w _ _).trans (if_pos rfl)
  refine Or.inr ⟨w.heap.size, 0, rfl, by simp, fun j hj => ?_⟩
  have : j = 0 := by simp at hj; omega
  subst this
  simp only [World.cell?, hn]
  rfl
theorem belowNew {w w' w9 : World} {k : NBk} (hk : ∀ i, NOwn k i → w.heap.size ≤ i) (hb : Below w.heap.size w w') (ho : Off (NOwn k) w' w9) : Below w.heap.size w w9 := hb.trans (ho.below hb.size (fun i hi h => by have := hk i h; omega))
/-- Pass, of one count. -/
theorem spass_one {w : World} {k : NBk} {last flight : Int} {notes : List NoteW} (h : NodeAt w k last flight notes) (at_ n : Int) :
    Calls Try.prog 15 #[.pointer (some ⟨k.q, 0, none⟩), .int .i64 at_, .slice (some ⟨w.heap.size, 0, none⟩) 1 1] (w.alloc (.cells #[.int .i64 n] 3)) fun e w' => e = .returned (.int .i64 (passE last flight at_ [n])) ∧ (passE last flight at_ [n] ≠ 0 → Below w.heap.size w w') ∧ (passE last flight at_ [n] = 0 → NodeAt w' k at_ (flight + 1) (notes ++ newW at_ [passC n]) ∧ Off (NOwn k) w w') := by
  have hb : Below w.heap.size w (w.alloc (.cells #[.int .i64 n] 3)) := (Below.refl _ _).alloc (Nat.le_refl _) _
  exact (spass_any (h.below hb) at_ (some ⟨w.heap.size, 0, none⟩) 1 1 [n] rfl (by omega) (ints_one w n)).mono fun e w' h => ⟨h.e, fun hE => hb.trans ((h.no hE).mono hb.size), fun hE => ⟨(h.yes hE).1, (Off.ofBelow hb).trans (h.yes hE).2 (fun _ _ h => h)⟩⟩

end Go.Proofs.Ytpbbidijnmooaaa
