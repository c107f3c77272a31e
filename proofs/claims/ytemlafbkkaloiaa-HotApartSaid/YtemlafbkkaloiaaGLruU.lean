/- lru's answer by the document: Get. -/
import Derived.Deep.RegionHeld3
import Derived.Test.YtemlafbkkaloiaaGLruR
namespace Go.Proofs.Ytemlafbkkaloiaa
open Go.RowKit
set_option linter.unusedVariables false
set_option linter.unusedSimpArgs false

theorem wp_append_where {P : Program} (w : World) {o : Oper} {a : Act} {K : Act → World → Prop} {Q : Exit → Act → World → Prop} (s x : Operand) (t : TypeId)
    (ho : o.op = .call { callee := .builtin .append, args := #[s, x], argTypes := #[t, t] })
    (base : Nat) (e : TypeId) (i : TypeInfo) (z : Value) (size bytes : Nat) (ht : P.underlying t = some (.slice e)) (hi : P.info? e = some i) (hz : i.zero = some z)
    (hsize : i.size = size) (hby : i.bytes = bytes) (hzs : z.cells.size = size) (hsz : 0 < size)
    (v : Value) (n : Nat) (xs : List Value) (hs : a.eval s = v) (hown : w.ownsRow base e size v n xs)
    (ad : Addr) (m c : Nat) (news : List Value) (hx : a.eval x = .slice (some ad) m c) (hl : news.length = m * size) (hnews : ∀ j u, news[j]? = some u → w.cell? (ad.add j) = some u) (h1 : ∀ u ∈ news, u.oneCell' = true)
    (h63 : n + m ≤ maxLen) (hbytes : (n + m) * bytes ≤ 140737488355328) (hbase : base ≤ w.heap.size) (hm : m ≠ 0)
    (h : ∀ v' w', w'.ownsRow base e size v' (n + m) (xs ++ news) → w.grownBy w' v.ownBlock → (v'.ownBlock = v.ownBlock ∨ v'.ownBlock = some w.heap.size) → K (a.put o.dst v') w') : o.wp P a w K Q := by
  obtain ⟨v', w', hr, h2, h3, h4⟩ := run_append_where (P := P) w base t o.type e i z size bytes ht hi hz hsize hby hzs hsz v n xs hown ad m c news hl hnews h1 h63 hbytes hbase hm
  unfold Oper.wp execOp
  simp only [ho, resolve, invoke, builtin, Sem.run_bind, Sem.run_pure, Result.andThen_ok, List.map_toArray, List.map_cons, List.map_nil, hs, hx, hr]
  exact h v' w' h2 h3 h4

theorem boxed_alloc {w : World} {p : Nat} {x y : Value} {o : Obj} (h : w.cell? ⟨p, 0, none⟩ = some x ∧ w.cell? ⟨p, 1, none⟩ = some y) : (w.alloc o).cell? ⟨p, 0, none⟩ = some x ∧ (w.alloc o).cell? ⟨p, 1, none⟩ = some y :=
  ⟨(World.cell?_alloc_lt w _ _ (World.block_lt_of_cell? w _ h.1)).trans h.1, (World.cell?_alloc_lt w _ _ (World.block_lt_of_cell? w _ h.2)).trans h.2⟩
theorem boxed_grown {w w3 : World} {p : Nat} {x y : Value} {row : Option Nat} (h : w.cell? ⟨p, 0, none⟩ = some x ∧ w.cell? ⟨p, 1, none⟩ = some y) (hg : w.grownBy w3 row) (hne : ∀ k, row = some k → k ≠ p) : w3.cell? ⟨p, 0, none⟩ = some x ∧ w3.cell? ⟨p, 1, none⟩ = some y := by
  have hk : w3.heap[p]? = w.heap[p]? := hg.block p (World.block_lt_of_cell? w _ h.1) (fun e => hne p e.symm rfl)
  exact ⟨(World.cell?_of_block (w := w) (a := ⟨p, 0, none⟩) hk).trans h.1, (World.cell?_of_block (w := w) (a := ⟨p, 1, none⟩) hk).trans h.2⟩
theorem boxed_set {w : World} {p r o : Nat} {x y u : Value} (h : w.cell? ⟨p, 0, none⟩ = some x ∧ w.cell? ⟨p, 1, none⟩ = some y) (hne : r ≠ p) : (w.setCell ⟨r, o, none⟩ u).cell? ⟨p, 0, none⟩ = some x ∧ (w.setCell ⟨r, o, none⟩ u).cell? ⟨p, 1, none⟩ = some y :=
  ⟨cell_far h.1 (by simp [hne]), cell_far h.2 (by simp [hne])⟩
theorem boxed_off {S : Nat → Prop} {w w3 : World} {p : Nat} {x y : Value} (h : w.cell? ⟨p, 0, none⟩ = some x ∧ w.cell? ⟨p, 1, none⟩ = some y) (ho : Off S w w3) (hne : ¬ S p) : w3.cell? ⟨p, 0, none⟩ = some x ∧ w3.cell? ⟨p, 1, none⟩ = some y :=
  ⟨ho.cell h.1 hne, ho.cell h.2 hne⟩
theorem boxed_new (w : World) (x y : Value) (t : TypeId) : (w.alloc (.cells #[x, y] t)).cell? ⟨w.heap.size, 0, none⟩ = some x ∧ (w.alloc (.cells #[x, y] t)).cell? ⟨w.heap.size, 1, none⟩ = some y :=
  ⟨by have := two_cells w x y t 0 x rfl; rw [WideShapes.add_plain] at this; exact this, by have := two_cells w x y t 1 y rfl; rw [WideShapes.add_plain] at this; exact this⟩

end Go.Proofs.Ytemlafbkkaloiaa
