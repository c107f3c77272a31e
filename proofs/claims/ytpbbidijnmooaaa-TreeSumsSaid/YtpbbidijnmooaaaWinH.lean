/- window: Most. -/
import Derived.Test.YtpbbidijnmooaaaWinG
namespace Go.Proofs.Ytpbbidijnmooaaa
open Go.RowKit Go.Shelf
set_option linter.unusedVariables false
set_option linter.unusedSimpArgs false
attribute [local go_sem] Oper.semAt_some

def mostF (K : Int) (g : Int) (x : Int × CntS) : Int := if x.1 = K then g else max g x.2.p
def mostBk (K : Int) (l : List (Int × CntS)) : Int := l.foldl (mostF K) 0
theorem mostBk_snoc (K : Int) (l : List (Int × CntS)) (x : Int × CntS) : mostBk K (l ++ [x]) = mostF K (mostBk K l) x := by simp [mostBk, List.foldl_append]
structure SameW (V w : World) : Prop where
  heap : w.heap = V.heap
  os : w.os = V.os
  tape : w.tape = V.tape
  output : w.output = V.output
theorem keep_one {n1 s : Nat} {W w1 : World} {v : Value} {t : TypeId} (hz : w1.heap = W.heap) (hs : W.heap[s]? = some (.cells #[v] t)) (u : Value) : KeepW n1 s W (w1.setCell ⟨s, 0, none⟩ u) ∧ ∀ B, KeepsFrom B W (w1.setCell ⟨s, 0, none⟩ u) := by
  have hsz : (w1.setCell ⟨s, 0, none⟩ u).heap.size = W.heap.size := by rw [← hz]; simp [World.setCell]
  have ho : ∀ i, i ≠ s → (w1.setCell ⟨s, 0, none⟩ u).heap[i]? = W.heap[i]? := fun i hi => (heap_setCell_other w1 ⟨s, 0, none⟩ i u hi).trans (by rw [hz])
  refine ⟨⟨by rw [hsz]; exact Nat.le_refl _, fun i hi hne => ho i hne, fun i o hi _ hne => (ho i hne).trans hi⟩, fun B => ⟨by rw [hsz]; exact Nat.le_refl _, fun k o _ hk hx => ?_⟩⟩
  have hne : k ≠ s := fun e => by
    subst e
    rw [hs] at hk; cases hk; cases hx
  exact (ho k hne).trans hk
theorem keep_none {n1 s : Nat} {W w1 : World} (hz : w1.heap = W.heap) : KeepW n1 s W w1 ∧ ∀ B, KeepsFrom B W w1 :=
  ⟨⟨by rw [hz]; exact Nat.le_refl _, fun i _ _ => by rw [hz], fun i o hi _ _ => by rw [hz]; exact hi⟩, fun B => ⟨by rw [hz]; exact Nat.le_refl _, fun k o _ hk _ => by rw [hz]; exact hk⟩⟩
theorem box_cell {w : World} {g : Nat} {v : Value} {t : TypeId} (h : w.heap[g]? = some (.cells #[v] t)) : w.cell? ⟨g, 0, none⟩ = some v := by simp [World.cell?, h]
theorem box_free {w : World} {g : Nat} {v : Value} {t : TypeId} (h : w.heap[g]? = some (.cells #[v] t)) : w.frozen? ⟨g, 0, none⟩ = false := by simp [World.frozen?, h]
theorem results_tmp_tmp {P : Program} {fn : Func} {p q : Tmp} (h : fn.results = #[.tmp p, .tmp q]) (tmps : Array Value) (w : World) (u v : Value) (hp : tmps.getD p undef = u) (hq : tmps.getD q undef = v) : (results fn tmps).run P w = .ok (.tuple #[u, v]) w := by
  have hp' : tmps[p]?.getD undef = u := by simpa using hp
  have hq' : tmps[q]?.getD undef = v := by simpa using hq
  simp [results, h, hp', hq']

end Go.Proofs.Ytpbbidijnmooaaa
