/- Rows and texts: what hands of texts need (light). -/
import Derived.OwnWalk
import Derived.Test.YtockmgcgifhepaaRowsOf
import Derived.Test.YtockmgcgifhepaaGRecs
namespace Go.Proofs.Ytockmgcgifhepaa
open Go.RowKit
set_option linter.unusedVariables false
set_option linter.unusedSimpArgs false

def RowsAt (w : World) (a : Option Addr) (n : Nat) (rs : List (List Value)) : Prop :=
  rs = [] ∨ ∃ b off, a = some ⟨b, off, none⟩ ∧ b < w.heap.size ∧ ∀ j r, rs[j]? = some r → ∀ k u, k < n → r[k]? = some u → w.cell? ⟨b, off + j * n + k, none⟩ = some u
theorem RowsAt.below {N : Nat} {w w' : World} {a : Option Addr} {n : Nat} {rs : List (List Value)} (h : RowsAt w a n rs) (hn : w.heap.size ≤ N) (hb : Below N w w') : RowsAt w' a n rs := by
  rcases h with h | ⟨b, off, rfl, hl, hc⟩
  · exact Or.inl h
  · exact Or.inr ⟨b, off, rfl, Nat.lt_of_lt_of_le hl hb.size, fun j r hj k u hk hu => (World.cell?_of_block (a := ⟨b, off + j * n + k, none⟩) (hb.block b (Nat.lt_of_lt_of_le hl hn))).trans (hc j r hj k u hk hu)⟩
def TextsAt (w : World) (a : Option Addr) (ss : List ByteArray) : Prop :=
  ss = [] ∨ ∃ b off, a = some ⟨b, off, none⟩ ∧ b < w.heap.size ∧ ∀ j, j < ss.length → w.cell? ⟨b, off + j, none⟩ = some (.string (ss.getD j ⟨#[]⟩))
theorem TextsAt.below2 {N : Nat} {w w' : World} {a : Option Addr} {ss : List ByteArray} (h : TextsAt w a ss) (hn : w.heap.size ≤ N) (hb : Below N w w') : TextsAt w' a ss := by
  rcases h with h | ⟨b, off, rfl, hl, hc⟩
  · exact Or.inl h
  · exact Or.inr ⟨b, off, rfl, Nat.lt_of_lt_of_le hl hb.size, fun j hj => (World.cell?_of_block (a := ⟨b, off + j, none⟩) (hb.block b (Nat.lt_of_lt_of_le hl hn))).trans (hc j hj)⟩
theorem below_grownH {w w' : World} {row : Option Nat} (h : w.grownBy w' row) (hr : row = none := by rfl) : Below w.heap.size w w' := ⟨h.os, h.tape, h.output, h.size, fun k hk => h.block k hk (by rw [hr]; simp)⟩
theorem below_drewH {n : Nat} {a w : World} (h : Below n a w) (q : Nat) : Below n a (w.drewN q) := ⟨h.os, h.tape, h.output, h.size, h.block⟩
theorem info_partsO {P : Program} {t : TypeId} {z : Value} {sz by_ : Nat} (h : (P.info? t).map (fun i => (i.zero, i.size, i.bytes)) = some (some z, sz, by_)) : ∃ i, P.info? t = some i ∧ i.zero = some z ∧ i.size = sz ∧ i.bytes = by_ := by
  cases hi : P.info? t with
  | none => rw [hi] at h; cases h
  | some i =>
    rw [hi] at h
    simp only [Option.map_some, Option.some.injEq, Prod.mk.injEq] at h
    exact ⟨i, rfl, h.1, h.2.1, h.2.2⟩
theorem rowsAt_getH {w : World} {a : Option Addr} {n : Nat} {rs : List (List Value)} (h : RowsAt w a n rs) {j : Nat} {x : List Value} (hj : rs[j]? = some x) : ∃ b off, a = some ⟨b, off, none⟩ ∧ b < w.heap.size ∧ ∀ k u, k < n → x[k]? = some u → w.cell? ⟨b, off + j * n + k, none⟩ = some u := by
  rcases h with h | ⟨b, off, rfl, hl, hc⟩
  · subst h; simp at hj
  · exact ⟨b, off, rfl, hl, hc j x hj⟩
end Go.Proofs.Ytockmgcgifhepaa
