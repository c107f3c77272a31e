/- rules.Of: the loops over the rules of a kind. -/
import Derived.Test.YtgkdpkpiejjfmaaRuOf
namespace Go.Proofs.Ytgkdpkpiejjfmaa
open Go.RowKit
set_option linter.unusedVariables false
set_option linter.unusedSimpArgs false

def eqS (o : Option ByteArray) (res : ByteArray) : Bool := match o with | some s => s.toList == res.toList | none => false
/-- Does rule i of a kind concern a resource? -/
def hitR (r : RulesS) (kind : Int) (res : ByteArray) (i : Nat) : Bool :=
  if kind = 1 then eqS (r.fl[i]?.map (·.res)) res else if kind = 2 then eqS (r.br[i]?.map (·.res)) res else if kind = 3 then eqS (r.ho[i]?.map (·.res)) res else if kind = 4 then true else eqS (r.au[i]?.map (·.res)) res
def cntR (r : RulesS) (kind : Int) : Nat := if kind = 1 then r.n0 else if kind = 2 then r.n1 else if kind = 3 then r.n2 else if kind = 4 then r.n3 else if kind = 5 then r.n4 else 0
def ofR (r : RulesS) (kind : Int) (res : ByteArray) : List Int := ofFrom (hitR r kind res) (cntR r kind)
theorem rowsAt_get {w : World} {a : Option Addr} {n : Nat} {rs : List (List Value)} (h : RowsAt w a n rs) {j : Nat} {x : List Value} (hj : rs[j]? = some x) : ∃ b off, a = some ⟨b, off, none⟩ ∧ b < w.heap.size ∧ ∀ k u, k < n → x[k]? = some u → w.cell? ⟨b, off + j * n + k, none⟩ = some u := by
  rcases h with h | ⟨b, off, rfl, hl, hc⟩
  · subst h; simp at hj
  · exact ⟨b, off, rfl, hl, hc j x hj⟩
theorem flowsAt_get {w : World} {a : Option Addr} {fs : List FlowS} (h : FlowsAt w a fs) {j : Nat} {x : FlowS} (hj : fs[j]? = some x) : ∃ b off, a = some ⟨b, off, none⟩ ∧ b < w.heap.size ∧ FlowAt w b (off + j * 12) x := by
  rcases h with h | ⟨b, off, rfl, hl, hc⟩
  · subst h; simp at hj
  · exact ⟨b, off, rfl, hl, hc j x hj⟩
theorem ofI_start (w : World) (res : ByteArray) (cs : Array Value) (t : TypeId) (W : World) (hW : ((w.alloc (.cells cs t)).alloc (.cells #[.string res] 9)).alloc (.cells #[.slice none 0 0] 94) = W) : OfI w (w.heap.size + 3) (w.heap.size + 2) (w.heap.size + 1) res [] W := by
  have h1 : W.heap[w.heap.size + 1]? = some (.cells #[.string res] 9) := by rw [← hW, get_allocB, if_neg (by simp), get_allocB, if_pos (by simp)]
  have h2 : W.heap[w.heap.size + 2]? = some (.cells #[.slice none 0 0] 94) := by rw [← hW, get_allocB, if_pos (by simp)]
  have h3 : W.heap.size = w.heap.size + 3 := by rw [← hW]; simp
  have hb : Below w.heap.size w W := by rw [← hW]; exact (((Below.refl _ _).alloc (Nat.le_refl _) _).alloc (by simp) _).alloc (by simp; omega) _
  exact ⟨hb, by omega, by omega, by omega, box_one h1, by omega, by omega, _, h2, World.ownsRow_nil _ _ _ _⟩

def OfPost (w : World) (xs : List Int) (e : Ending) (w' : World) : Prop := ∃ v, e = .returned v ∧ w'.ownsRow w.heap.size 3 1 v xs.length (xs.map (Value.int .i64)) ∧ Below w.heap.size w w'
theorem ownsRow_baseO {w : World} {b b' size n : Nat} {e : TypeId} {v : Value} {xs : List Value} (h : w.ownsRow b e size v n xs) (hb : b' ≤ b) : w.ownsRow b' e size v n xs := by
  refine ⟨h.1, ?_⟩
  rcases h.2 with h | ⟨g, cap, cur, e1, e2, e3⟩
  · exact Or.inl h
  · exact Or.inr ⟨g, cap, cur, e1, by omega, e3⟩
theorem OfI.post {w0 : World} {base bl br : Nat} {res : ByteArray} {ns : List Int} {w : World} {v : Value} (h : OfI w0 base bl br res ns w) (hc : w.heap[bl]? = some (.cells #[v] 94)) : OfPost w0 ns (.returned v) w := by
  obtain ⟨v', h1, h2⟩ := h.row
  obtain rfl : v' = v := by rw [hc] at h1; injection h1 with h1; injection h1 with h1; injection h1 with h1; injection h1 with h1; exact h1.symm
  exact ⟨v', rfl, ownsRow_baseO h2 (by have := h.b0; have := h.l0; omega), h.bel⟩

end Go.Proofs.Ytgkdpkpiejjfmaa