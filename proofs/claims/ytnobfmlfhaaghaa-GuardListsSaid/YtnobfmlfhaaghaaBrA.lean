/- breaker: what is wrong with a rule. -/
import Derived.Test.YtnobfmlfhaaghaaRuC
import Derived.Laws.EntriesVeiled
namespace Go.Proofs.Ytnobfmlfhaaghaa
open Go.RowKit
set_option linter.unusedVariables false
set_option linter.unusedSimpArgs false

structure BreakS where
  res : ByteArray
  gr : Int
  cnt : Int
  slow : Int
  least : Int
  win : Int
  rec_ : Int
def BreakS.cells (r : BreakS) : Array Value := #[.string r.res, .int .u8 r.gr, .int .i64 r.cnt, .int .i64 r.slow, .int .i64 r.least, .int .i64 r.win, .int .i64 r.rec_]
def BreakS.v (r : BreakS) : Value := .agg r.cells
structure BreakBox (w : World) (b : Nat) (r : BreakS) : Prop where
  c0 : w.cell? ⟨b, 0, none⟩ = some (.string r.res)
  c1 : w.cell? ⟨b, 1, none⟩ = some (.int .u8 r.gr)
  c2 : w.cell? ⟨b, 2, none⟩ = some (.int .i64 r.cnt)
  c3 : w.cell? ⟨b, 3, none⟩ = some (.int .i64 r.slow)
  c4 : w.cell? ⟨b, 4, none⟩ = some (.int .i64 r.least)
  c5 : w.cell? ⟨b, 5, none⟩ = some (.int .i64 r.win)
  c6 : w.cell? ⟨b, 6, none⟩ = some (.int .i64 r.rec_)
theorem BreakBox.below {w w' : World} {b : Nat} {r : BreakS} (h : BreakBox w b r) (hb : Below w.heap.size w w') : BreakBox w' b r := by
  have hl := World.block_lt_of_cell? w _ h.c0
  have g : ∀ o v, w.cell? ⟨b, o, none⟩ = some v → w'.cell? ⟨b, o, none⟩ = some v := fun o v e => (hb.cell (p := ⟨b, o, none⟩) hl).trans e
  exact ⟨g _ _ h.c0, g _ _ h.c1, g _ _ h.c2, g _ _ h.c3, g _ _ h.c4, g _ _ h.c5, g _ _ h.c6⟩
def br1 (r : BreakS) (most : Int) : Bool := decide (r.gr ≤ 2) && (decide (0 ≤ r.cnt) && decide (r.cnt ≤ most))
def br2 (r : BreakS) : Bool := onlyB (r.gr == 0) r.slow 1 3600000000
def br3 (r : BreakS) : Bool := (decide (1 ≤ r.least) && decide (r.least ≤ 1099511627776)) && (decide (1000000 ≤ r.win) && decide (r.win ≤ 120000000))
def br4 (r : BreakS) : Bool := decide (1000000 ≤ r.rec_) && decide (r.rec_ ≤ 3600000000)
def mostR (r : BreakS) : Int := if r.gr = 2 then 1099511627776 else 1000
def breakE (r : BreakS) : Int := lookE (namedB r.res []) (br1 r (mostR r) && (br2 r && (br3 r && br4 r))) 31

def fnB (id : FuncId) (caps : Array Value) : Value := .func (.func id) #[] caps
theorem get_allocB (w : World) (o : Obj) (i : Nat) : (w.alloc o).heap[i]? = if i = w.heap.size then some o else w.heap[i]? := by
  show (Array.push w.heap o)[i]? = _
  rw [Array.getElem?_push]
def brkO (r : BreakS) : Obj := .cells r.cells 104
theorem brk_box {w : World} {g : Nat} {r : BreakS} {fr : Nat × Nat} (h : w.heap[g]? = some (.cells r.cells 104 fr)) : BreakBox w g r := by
  constructor <;> simp [World.cell?, h, BreakS.cells]
/-- What is so of a rule that is right. -/
structure BreakOk (r : BreakS) : Prop where
  gr : r.gr ≤ 2
  c0 : 0 ≤ r.cnt
  c1 : r.cnt ≤ mostR r
  s : r.gr = 0 → 1 ≤ r.slow ∧ r.slow ≤ 3600000000
  l0 : 1 ≤ r.least
  l1 : r.least ≤ 1099511627776
  w0 : 1000000 ≤ r.win
  w1 : r.win ≤ 120000000
  r0 : 1000000 ≤ r.rec_
  r1 : r.rec_ ≤ 3600000000
theorem breakE_ok {r : BreakS} (h : breakE r = 0) : BreakOk r := by
  unfold breakE lookE at h
  split at h
  · split at h
    · rename_i hb
      simp only [br1, br2, br3, br4, onlyB, Bool.and_eq_true, Bool.or_eq_true, decide_eq_true_eq, beq_iff_eq] at hb
      obtain ⟨⟨h1, h2, h3⟩, h4, ⟨⟨h5, h6⟩, h7, h8⟩, h9, h10⟩ := hb
      exact ⟨h1, h2, h3, fun hg => by
        rcases h4 with ⟨_, h, h'⟩ | ⟨h, _⟩
        · exact ⟨h, h'⟩
        · simp [hg] at h, h5, h6, h7, h8, h9, h10⟩
    · cases h
  · cases h
end Go.Proofs.Ytnobfmlfhaaghaa
