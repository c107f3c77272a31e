/- rules.Of: the numbers of a resource's rules of a kind; the closure that notes them. -/
import Derived.Test.YtgkdpkpiejjfmaaRulesIn
import Derived.Test.YtgkdpkpiejjfmaaInts
import Derived.Test.YtgkdpkpiejjfmaaOwn
import Derived.Laws.Rows
namespace Go.Proofs.Ytgkdpkpiejjfmaa
open Go.RowKit
set_option linter.unusedVariables false
set_option linter.unusedSimpArgs false

/-- The numbers below n that are p. -/
def ofFrom (p : Nat → Bool) (n : Nat) : List Int := ((List.range n).filter p).map fun (i : Nat) => (i : Int)
theorem ofFrom_step (p : Nat → Bool) (k : Nat) : ofFrom p (k + 1) = if p k then ofFrom p k ++ [(k : Int)] else ofFrom p k := by
  unfold ofFrom
  rw [List.range_succ, List.filter_append, List.map_append]
  cases h : p k <;> simp [h]
theorem ofFrom_len (p : Nat → Bool) (k : Nat) : (ofFrom p k).length ≤ k := by
  unfold ofFrom
  rw [List.length_map]
  have := List.length_filter_le p (List.range k)
  simpa using this
theorem ofFrom_congr {p q : Nat → Bool} {n : Nat} (h : ∀ i, i < n → p i = q i) : ofFrom p n = ofFrom q n := by
  unfold ofFrom
  rw [List.filter_congr fun i hi => h i (List.mem_range.1 hi)]

theorem info_intO : (Try.prog.info? 3).map (fun i => (i.zero, i.size, i.bytes)) = some (some (.int .i64 0), 1, 8) := by kernel_rfl
theorem info_partsO {P : Program} {t : TypeId} {z : Value} {sz by_ : Nat} (h : (P.info? t).map (fun i => (i.zero, i.size, i.bytes)) = some (some z, sz, by_)) : ∃ i, P.info? t = some i ∧ i.zero = some z ∧ i.size = sz ∧ i.bytes = by_ := by
  cases hi : P.info? t with
  | none => rw [hi] at h; cases h
  | some i =>
    rw [hi] at h
    simp only [Option.map_some, Option.some.injEq, Prod.mk.injEq] at h
    exact ⟨i, rfl, h.1, h.2.1, h.2.2⟩

/-- What lies in memory while the closure notes. -/
structure OfI (w0 : World) (base bl br : Nat) (res : ByteArray) (ns : List Int) (w : World) : Prop where
  bel : Below w0.heap.size w0 w
  b0 : w0.heap.size ≤ bl
  l0 : bl < base
  bs : base ≤ w.heap.size
  cr : w.cell? ⟨br, 0, none⟩ = some (.string res)
  ne : bl ≠ br
  l1 : br < base
  row : ∃ v, w.heap[bl]? = some (.cells #[v] 94) ∧ w.ownsRow base 3 1 v ns.length (ns.map (Value.int .i64))
theorem OfI.below {w0 w w' : World} {base bl br : Nat} {res : ByteArray} {ns : List Int} (h : OfI w0 base bl br res ns w) (hb : Below w.heap.size w w') : OfI w0 base bl br res ns w' := by
  obtain ⟨v, h1, h2⟩ := h.row
  have hl := h.l0
  have hl1 := h.l1
  have hs := h.bs
  refine ⟨h.bel.trans (hb.mono h.bel.size), h.b0, h.l0, Nat.le_trans h.bs hb.size, (hb.cell (p := ⟨br, 0, none⟩) (by show br < _; omega)).trans h.cr, h.ne, h.l1, v, (hb.block bl (by omega)).trans h1, ?_⟩
  exact h2.kept (row := none) ⟨hb.os, hb.tape, hb.output, hb.size, fun k hk _ => hb.block k hk⟩ (by cases v.ownBlock <;> simp)
theorem OfI.alloc {w0 w : World} {base bl br : Nat} {res : ByteArray} {ns : List Int} (h : OfI w0 base bl br res ns w) (o : Obj) : OfI w0 base bl br res ns (w.alloc o) := h.below ((Below.refl _ _).alloc (Nat.le_refl _) o)
theorem OfI.cellOld {w0 w : World} {base bl br : Nat} {res : ByteArray} {ns : List Int} (h : OfI w0 base bl br res ns w) {p : Addr} (hp : p.block < w0.heap.size) : w.cell? p = w0.cell? p := h.bel.cell hp
theorem box_one {w : World} {g : Nat} {v : Value} {t : TypeId} (h : w.heap[g]? = some (.cells #[v] t)) : w.cell? ⟨g, 0, none⟩ = some v := by simp [World.cell?, h]
theorem box_oneF {w : World} {g : Nat} {v : Value} {t : TypeId} (h : w.heap[g]? = some (.cells #[v] t)) : w.frozen? ⟨g, 0, none⟩ = false := by simp [World.frozen?, h]
theorem own_sliceO {w : World} {base n size : Nat} {e : TypeId} {v : Value} {xs : List Value} (h : w.ownsRow base e size v n xs) : ∃ a cap, v = .slice a n cap := by
  rcases h.2 with ⟨rfl, rfl⟩ | ⟨g, cap, cur, rfl, _⟩
  · exact ⟨none, 0, rfl⟩
  · exact ⟨_, cap, rfl⟩
theorem one_cellO (w : World) (u : Value) (t : TypeId) : ∀ j x, ([u] : List Value)[j]? = some x → (w.alloc (.cells #[u] t)).cell? ((⟨w.heap.size, 0, none⟩ : Addr).add j) = some x := by
  intro j x hx
  match j with
  | 0 =>
    obtain rfl : u = x := by simpa using hx
    have : (w.alloc (.cells #[u] t)).heap[w.heap.size]? = some (.cells #[u] t) := by rw [get_allocB, if_pos rfl]
    rw [show ((⟨w.heap.size, 0, none⟩ : Addr).add 0) = ⟨w.heap.size, 0, none⟩ from rfl]
    simp only [World.cell?]
    rw [this]
    rfl
  | j + 1 => simp at hx

end Go.Proofs.Ytgkdpkpiejjfmaa
