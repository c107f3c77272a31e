/- breaker: one in memory; what looks at it, opens it, clears its window. -/
import Derived.Test.YteghiappanpogaaBrA
import Derived.Test.YteghiappanpogaaStB
import Derived.Test.YteghiappanpogaaNumOps
namespace Go.Proofs.Yteghiappanpogaa
open Go.RowKit
set_option linter.unusedVariables false
set_option linter.unusedSimpArgs false

/-- How a breaker stands. -/
structure BrS where
  st : Int
  un : Int
  tr : Int
  la : Int
  wl : Int
  notes : List NoteW
def brC (r : BreakS) (p : Nat) (s : BrS) : Array Value := #[.string r.res, .int .u8 r.gr, .int .i64 r.cnt, .int .i64 r.slow, .int .i64 r.least, .int .i64 r.win, .int .i64 r.rec_, .pointer (some ⟨p, 0, none⟩), .int .u8 s.st, .int .i64 s.un, .int .i64 s.tr, .int .i64 s.la]
def brO (r : BreakS) (p : Nat) (s : BrS) : Obj := .cells (brC r p s) 49
/-- Its block, its window's, the window's map's. -/
structure BrAt (w : World) (q p m : Nat) (r : BreakS) (s : BrS) : Prop where
  head : w.heap[q]? = some (brO r p s)
  win : WinN w p m r.win 1 s.wl s.notes
  qp : q ≠ p
  qm : q ≠ m
  wl : s.wl ≤ s.la
  la0 : 0 ≤ s.la
  la1 : s.la ≤ 1152921504606846976
  st : s.st = 1 ∨ s.st = 2 ∨ s.st = 3
  ok : BreakOk r
def BOwn (q p m : Nat) (i : Nat) : Prop := i = q ∨ i = p ∨ i = m
theorem BrAt.lt {w : World} {q p m : Nat} {r : BreakS} {s : BrS} (h : BrAt w q p m r s) {i : Nat} (hi : BOwn q p m i) : i < w.heap.size := by
  have h1 := (Array.getElem?_eq_some_iff.1 h.head).1
  have h2 := h.win.lt
  rcases hi with rfl | rfl | rfl <;> omega
theorem BrAt.kept {w w' : World} {q p m : Nat} {r : BreakS} {s : BrS} (h : BrAt w q p m r s) (hk : ∀ i, BOwn q p m i → w'.heap[i]? = w.heap[i]?) : BrAt w' q p m r s :=
  ⟨(hk q (Or.inl rfl)).trans h.head, h.win.kept (hk p (Or.inr (Or.inl rfl))) (hk m (Or.inr (Or.inr rfl))), h.qp, h.qm, h.wl, h.la0, h.la1, h.st, h.ok⟩
theorem BrAt.below {w w' : World} {q p m : Nat} {r : BreakS} {s : BrS} (h : BrAt w q p m r s) (hb : Below w.heap.size w w') : BrAt w' q p m r s := h.kept (fun i hi => hb.block i (h.lt hi))
structure BrCells (w : World) (q p : Nat) (r : BreakS) (s : BrS) : Prop where
  c1 : w.cell? ⟨q, 1, none⟩ = some (.int .u8 r.gr)
  c2 : w.cell? ⟨q, 2, none⟩ = some (.int .i64 r.cnt)
  c3 : w.cell? ⟨q, 3, none⟩ = some (.int .i64 r.slow)
  c4 : w.cell? ⟨q, 4, none⟩ = some (.int .i64 r.least)
  c5 : w.cell? ⟨q, 5, none⟩ = some (.int .i64 r.win)
  c6 : w.cell? ⟨q, 6, none⟩ = some (.int .i64 r.rec_)
  c7 : w.cell? ⟨q, 7, none⟩ = some (.pointer (some ⟨p, 0, none⟩))
  c8 : w.cell? ⟨q, 8, none⟩ = some (.int .u8 s.st)
  c9 : w.cell? ⟨q, 9, none⟩ = some (.int .i64 s.un)
  c10 : w.cell? ⟨q, 10, none⟩ = some (.int .i64 s.tr)
  c11 : w.cell? ⟨q, 11, none⟩ = some (.int .i64 s.la)
theorem br_cells {w : World} {q p : Nat} {r : BreakS} {s : BrS} (h : w.heap[q]? = some (brO r p s)) : BrCells w q p r s := by
  constructor <;> (simp only [World.cell?, h]; rfl)
theorem BrAt.cells {w : World} {q p m : Nat} {r : BreakS} {s : BrS} (h : BrAt w q p m r s) : BrCells w q p r s := br_cells h.head
/-- One of its numbers is set. -/
theorem BrAt.set {w : World} {q p m : Nat} {r : BreakS} {s s' : BrS} (h : BrAt w q p m r s) (k : Nat) (v : Value) (hc : (brC r p s).setIfInBounds k v = brC r p s') (hw : s'.wl = s.wl) (hn : s'.notes = s.notes) (h1 : s'.wl ≤ s'.la) (h2 : 0 ≤ s'.la) (h3 : s'.la ≤ 1152921504606846976) (h4 : s'.st = 1 ∨ s'.st = 2 ∨ s'.st = 3) : BrAt (w.setCell ⟨q, k, none⟩ v) q p m r s' := by
  refine ⟨?_, ?_, h.qp, h.qm, h1, h2, h3, h4, h.ok⟩
  · rw [heap_setCell_same w q k _ _ v h.head, hc]; rfl
  · rw [hw, hn]
    exact h.win.kept (heap_setCell_other w ⟨q, k, none⟩ p v h.qp.symm) (heap_setCell_other w ⟨q, k, none⟩ m v h.qm.symm)
theorem br_frozen {w : World} {q p m : Nat} {r : BreakS} {s : BrS} (h : BrAt w q p m r s) (k : Nat) : w.frozen? ⟨q, k, none⟩ = false := frozen_of_row w q k _ _ h.head

theorem blook_any {w : World} {q p m : Nat} {r : BreakS} {s : BrS} (h : BrAt w q p m r s) (at_ : Int) :
    Calls Try.prog 16 #[.pointer (some ⟨q, 0, none⟩), .int .i64 at_] w fun e w' => e = .returned (.int .i64 (lookW s.la at_)) ∧ w' = w := by
  have c11 := h.cells.c11
  generalize s.la = L at *
  clear h
  unfold lookW
  by_cases h1 : at_ < 0
  · rw [if_pos (Or.inl h1)]
    go_enter Try.func16, Try.ntmps16
    go_wp2_with (fail)
    go_ret
    exact ⟨rfl, rfl⟩
  · by_cases h2 : 1152921504606846976 < at_
    · rw [if_pos (Or.inr h2)]
      go_enter Try.func16, Try.ntmps16
      go_wp2_with (fail)
      go_ret
      exact ⟨rfl, rfl⟩
    · rw [if_neg (by omega)]
      by_cases h3 : at_ < L
      · rw [if_pos h3]
        go_enter Try.func16, Try.ntmps16
        go_wp2_with (fail)
        go_ret
        exact ⟨rfl, rfl⟩
      · rw [if_neg h3]
        go_enter Try.func16, Try.ntmps16
        go_wp2_with (fail)
        go_ret
        exact ⟨rfl, rfl⟩
def passB (s : BrS) (at_ : Int) : Bool := decide (s.st = 1) || (decide (s.st = 2) && decide (s.un ≤ at_))
theorem bpasses_any {w : World} {q p : Nat} {r : BreakS} {s : BrS} (h : BrCells w q p r s) (at_ : Int) :
    Calls Try.prog 17 #[.pointer (some ⟨q, 0, none⟩), .int .i64 at_] w fun e w' => e = .returned (.bool (passB s at_)) ∧ w' = w := by
  have c8 := h.c8
  have c9 := h.c9
  unfold passB
  generalize s.st = T at *
  generalize s.un = U at *
  clear h
  by_cases h1 : T = 1
  · subst h1
    go_enter Try.func17, Try.ntmps17
    go_wp2_with (fail)
    go_ret
    exact ⟨rfl, rfl⟩
  · have n1 : (T == 1) = false := by simpa using h1
    rw [decide_eq_false h1, Bool.false_or]
    by_cases h2 : T = 2
    · subst h2
      by_cases h3 : U ≤ at_
      · rw [decide_eq_true h3]
        go_enter Try.func17, Try.ntmps17
        go_wp2_with (fail)
        go_ret
        exact ⟨rfl, rfl⟩
      · rw [decide_eq_false h3]
        go_enter Try.func17, Try.ntmps17
        go_wp2_with (fail)
        go_ret
        exact ⟨rfl, rfl⟩
    · have n2 : (T == 2) = false := by simpa using h2
      rw [decide_eq_false h2, Bool.false_and]
      go_enter Try.func17, Try.ntmps17
      go_wp2_with (fail)
      go_ret
      exact ⟨rfl, rfl⟩
def badB (r : BreakS) (rt : Int) (failed : Bool) : Bool := if r.gr = 0 then decide (r.slow < rt) else failed
theorem bbad_any {w : World} {q p : Nat} {r : BreakS} {s : BrS} (h : BrCells w q p r s) (rt : Int) (failed : Bool) :
    Calls Try.prog 18 #[.pointer (some ⟨q, 0, none⟩), .int .i64 rt, .bool failed] w fun e w' => e = .returned (.bool (badB r rt failed)) ∧ w' = w := by
  have c1 := h.c1
  have c3 := h.c3
  unfold badB
  generalize r.gr = G at *
  generalize r.slow = S at *
  clear h
  by_cases h1 : G = 0
  · subst h1
    rw [if_pos rfl]
    by_cases h2 : S < rt
    · rw [decide_eq_true h2]
      go_enter Try.func18, Try.ntmps18
      go_wp2_with (fail)
      go_ret
      exact ⟨rfl, rfl⟩
    · rw [decide_eq_false h2]
      go_enter Try.func18, Try.ntmps18
      go_wp2_with (fail)
      go_ret
      exact ⟨rfl, rfl⟩
  · have n1 : (G == 0) = false := by simpa using h1
    rw [if_neg h1]
    go_enter Try.func18, Try.ntmps18
    go_wp2_with (fail)
    go_ret
    exact ⟨rfl, rfl⟩
def openS (r : BreakS) (s : BrS) (at_ : Int) : BrS := { s with st := 2, un := at_ + r.rec_, tr := wrap64 (s.tr + 1) }
theorem bopen_any {w : World} {q p m : Nat} {r : BreakS} {s : BrS} (h : BrAt w q p m r s) (at_ : Int) (a0 : 0 ≤ at_) (a1 : at_ ≤ 1152921504606846976) :
    Calls Try.prog 19 #[.pointer (some ⟨q, 0, none⟩), .int .i64 at_] w fun e w' => e = .returned (.tuple #[]) ∧ BrAt w' q p m r (openS r s at_) ∧ Off (fun i => i = q) w w' := by
  have h1 := h.set (s' := { s with st := 2 }) 8 (.int .u8 2) rfl rfl rfl h.wl h.la0 h.la1 (Or.inr (Or.inl rfl))
  have h2 := h1.set (s' := { s with st := 2, un := at_ + r.rec_ }) 9 (.int .i64 (at_ + r.rec_)) rfl rfl rfl h.wl h.la0 h.la1 (Or.inr (Or.inl rfl))
  have h3 := h2.set (s' := openS r s at_) 10 (.int .i64 (wrap64 (s.tr + 1))) rfl rfl rfl h.wl h.la0 h.la1 (Or.inr (Or.inl rfl))
  have HO := Lib.hid ((((Off.ofBelow (S := fun i => i = q) (Below.refl _ w)).setCell (p := ⟨q, 8, none⟩) (fun _ => rfl) (.int .u8 2)).setCell (p := ⟨q, 9, none⟩) (fun _ => rfl) (.int .i64 (at_ + r.rec_))).setCell (p := ⟨q, 10, none⟩) (fun _ => rfl) (.int .i64 (wrap64 (s.tr + 1))))
  have H3 := Lib.hid h3
  have c8 := h.cells.c8
  have c6 := h1.cells.c6
  have c9 := h1.cells.c9
  have c10 := h2.cells.c10
  have f8 := br_frozen h 8
  have f9 := br_frozen h1 9
  have f10 := br_frozen h2 10
  have r0 := h.ok.r0
  have r1 := h.ok.r1
  generalize hR : r.rec_ = R at *
  generalize hT : s.tr = T at *
  have hmin : min (at_ + R) 4611686018427387904 = at_ + R := by omega
  clear h h1 h2 h3
  go_enter Try.func19, Try.ntmps19
  go_wp2_with (fail)
  go_end0
  exact ⟨rfl, H3.out, HO.out⟩
end Go.Proofs.Yteghiappanpogaa
