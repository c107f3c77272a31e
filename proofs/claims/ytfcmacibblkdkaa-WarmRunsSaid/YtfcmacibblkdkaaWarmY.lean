/- The laws of the layer warmup: WarmRuns: what stands in memory while it runs. -/
import Derived.Test.YtfcmacibblkdkaaWarmX
import Derived.WalkKit
namespace Go.Proofs.Ytfcmacibblkdkaa
open Go.RowKit
set_option linter.unusedVariables false
set_option linter.unusedSimpArgs false

theorem own_two {w w' : World} {base : Nat} {e : TypeId} {size : Nat} {v : Value} {n : Nat} {xs : List Value} {b c : Nat} (h : w.ownsRow base e size v n xs) (g : Grown2 w w' b c) (hne : ∀ k, v.ownBlock = some k → k ≠ b ∧ k ≠ c) : w'.ownsRow base e size v n xs := by
  refine ⟨h.1, ?_⟩
  rcases h.2 with hh | ⟨k, cap, cur, rfl, hb, hg, h1, h2, h3, h4⟩
  · exact Or.inl hh
  · obtain ⟨n1, n2⟩ := hne k rfl
    refine Or.inr ⟨k, cap, cur, rfl, hb, ?_, h1, h2, h3, h4⟩
    rw [g.block k (Array.getElem?_eq_some_iff.1 hg).1 n1 n2]; exact hg
theorem own_below {w w' : World} {base : Nat} {e : TypeId} {size : Nat} {v : Value} {n : Nat} {xs : List Value} (h : w.ownsRow base e size v n xs) (g : Below w.heap.size w w') : w'.ownsRow base e size v n xs :=
  h.kept (row := none) (grown_below g none) (by cases v.ownBlock <;> simp)

/-- What was put aside: the two blocks, and how both stand. -/
abbrev Olds := List (Nat × Nat × WarmS)
def oldCells (O : Olds) : List Value := O.flatMap fun t => [.pointer (some ⟨t.1, 0, none⟩), .pointer (some ⟨t.2.1, 0, none⟩)]
theorem oldCells_length (O : Olds) : (oldCells O).length = O.length * 2 := by
  induction O with
  | nil => rfl
  | cons t O ih => simp only [oldCells, List.flatMap_cons, List.length_append, List.length_cons, List.length_nil] at ih ⊢; omega
theorem oldCells_snoc (O : Olds) (t : Nat × Nat × WarmS) : oldCells (O ++ [t]) = oldCells O ++ [.pointer (some ⟨t.1, 0, none⟩), .pointer (some ⟨t.2.1, 0, none⟩)] := by
  simp [oldCells]
theorem oldCells_at (O : Olds) (j : Nat) (hj : j < O.length) : (oldCells O)[j * 2]? = some (.pointer (some ⟨O[j].1, 0, none⟩)) ∧ (oldCells O)[j * 2 + 1]? = some (.pointer (some ⟨O[j].2.1, 0, none⟩)) := by
  induction O generalizing j with
  | nil => simp at hj
  | cons t O ih =>
    cases j with
    | zero => simp [oldCells]
    | succ j =>
      have := ih j (by simpa using hj)
      have e1 : (j + 1) * 2 = (j * 2) + 2 := by omega
      have e2 : (j + 1) * 2 + 1 = (j * 2 + 1) + 2 := by omega
      have ec : oldCells (t :: O) = .pointer (some ⟨t.1, 0, none⟩) :: .pointer (some ⟨t.2.1, 0, none⟩) :: oldCells O := rfl
      rw [e2, e1, ec]
      simpa using this

/-- The variable that holds both. -/
structure BoxAt (w : World) (bb b c : Nat) : Prop where
  x0 : w.cell? ⟨bb, 0, none⟩ = some (.pointer (some ⟨b, 0, none⟩))
  x1 : w.cell? ⟨bb, 1, none⟩ = some (.pointer (some ⟨c, 0, none⟩))
  fr : ∀ o, w.frozen? ⟨bb, o, none⟩ = false
  lt : bb < w.heap.size
theorem BoxAt.of_block {w w' : World} {bb b c : Nat} (h : BoxAt w bb b c) (hb : w'.heap[bb]? = w.heap[bb]?) (hz : w.heap.size ≤ w'.heap.size) : BoxAt w' bb b c :=
  ⟨(World.cell?_of_block (a := ⟨bb, 0, none⟩) hb).trans h.x0, (World.cell?_of_block (a := ⟨bb, 1, none⟩) hb).trans h.x1, fun o => (World.frozen?_of_block (a := ⟨bb, o, none⟩) hb).trans (h.fr o), Nat.lt_of_lt_of_le h.lt hz⟩
theorem BoxAt.below {w w' : World} {bb b c : Nat} (h : BoxAt w bb b c) (g : Below w.heap.size w w') : BoxAt w' bb b c := h.of_block (g.block bb h.lt) g.size
structure RunsAt (wr : World) (base bb b c : Nat) (s : WarmS) (v : Value) (O : Olds) : Prop where
  both : BothAt wr b c s
  box : BoxAt wr bb b c
  ne : b ≠ c
  lb : base ≤ b
  lc : base ≤ c
  own : wr.ownsRow (bb + 1) 49 2 v O.length (oldCells O)
  olds : ∀ t ∈ O, BothAt wr t.1 t.2.1 t.2.2 ∧ t.1 ≠ b ∧ t.1 ≠ c ∧ t.2.1 ≠ b ∧ t.2.1 ≠ c
  few : O.length ≤ 6
  nl : O = [] → v = .slice none 0 0

/-- The row of the old ones is no warm-up's block. -/
theorem own_not {wr : World} {base : Nat} {v : Value} {O : Olds} {b : Nat} {n : Int} (h : wr.ownsRow base 49 2 v O.length (oldCells O)) (nl : O = [] → v = .slice none 0 0) (hc : wr.cell? ⟨b, 0, none⟩ = some (.int .i64 n)) : ∀ k, v.ownBlock = some k → k ≠ b := by
  intro k hk e
  subst e
  cases O with
  | nil => rw [nl rfl] at hk; simp [Value.ownBlock] at hk
  | cons t O =>
    have h0 := (oldCells_at (t :: O) 0 (by simp)).1
    have := h.cells hk 0 _ h0
    rw [show ((⟨k, 0, none⟩ : Addr).add (0 * 2)) = ⟨k, 0, none⟩ from rfl, hc] at this
    simp at this

theorem box_not {w : World} {bb b c g : Nat} {n : Int} (h : BoxAt w bb b c) (hc : w.cell? ⟨g, 0, none⟩ = some (.int .i64 n)) : bb ≠ g := by
  intro e; subst e; rw [h.x0] at hc; simp at hc
theorem runs_below {w w' : World} {base bb b c : Nat} {s : WarmS} {v : Value} {O : Olds} (h : RunsAt w base bb b c s v O) (g : Below w.heap.size w w') : RunsAt w' base bb b c s v O :=
  ⟨h.both.below g, h.box.below g, h.ne, h.lb, h.lc, own_below h.own g, fun t ht => ⟨(h.olds t ht).1.below g, (h.olds t ht).2⟩, h.few, h.nl⟩
theorem runs_do {w w' : World} {base bb b c : Nat} {s s' : WarmS} {v : Value} {O : Olds} (h : RunsAt w base bb b c s v O) (hb : BothAt w' b c s') (g : Grown2 w w' b c) : RunsAt w' base bb b c s' v O :=
  ⟨hb, h.box.of_block (g.block bb h.box.lt (box_not h.box h.both.p.c0) (box_not h.box h.both.r.c0)) g.size, h.ne, h.lb, h.lc, own_two h.own g (fun k hk => ⟨own_not h.own h.nl h.both.p.c0 k hk, own_not h.own h.nl h.both.r.c0 k hk⟩), fun t ht => by
    obtain ⟨h1, h2, h3, h4, h5⟩ := h.olds t ht
    exact ⟨h1.two g h2 h3 h4 h5, h2, h3, h4, h5⟩, h.few, h.nl⟩

theorem runs_append {w w2 : World} {base bb b c : Nat} {s : WarmS} {v v' : Value} {O : Olds} (h : RunsAt w base bb b c s v O)
    (hown : w2.ownsRow (bb + 1) 49 2 v' (O.length + 1) (oldCells O ++ [.pointer (some ⟨b, 0, none⟩), .pointer (some ⟨c, 0, none⟩)])) (hg : w.grownBy w2 v.ownBlock) :
    BothAt w2 b c s ∧ BoxAt w2 bb b c ∧ w2.ownsRow (bb + 1) 49 2 v' (O ++ [(b, c, s)]).length (oldCells (O ++ [(b, c, s)])) ∧ (∀ t ∈ O, BothAt w2 t.1 t.2.1 t.2.2) := by
  have key : ∀ {g hh : Nat} {s : WarmS}, BothAt w g hh s → BothAt w2 g hh s := fun q =>
    ⟨q.p.grown hg (fun e => own_not h.own h.nl q.p.c0 _ e.symm rfl), q.r.grown hg (fun e => own_not h.own h.nl q.r.c0 _ e.symm rfl), q.ok⟩
  refine ⟨key h.both, h.box.of_block (hg.block bb h.box.lt (fun e => by have := (h.own.lt bb e.symm).1; omega)) hg.size, ?_, fun t ht => key (h.olds t ht).1⟩
  rw [oldCells_snoc, List.length_append]
  exact hown
theorem runs_push {w2 w4 : World} {base bb b c b' c' : Nat} {s : WarmS} {v' : Value} {O : Olds} (h1 : BothAt w2 b c s) (hx : BoxAt w2 bb b c) (h2 : w2.ownsRow (bb + 1) 49 2 v' (O ++ [(b, c, s)]).length (oldCells (O ++ [(b, c, s)]))) (h3 : ∀ t ∈ O, BothAt w2 t.1 t.2.1 t.2.2)
    (hb : BothAt w4 b' c' s) (hg : Below w2.heap.size w2 w4) (l1 : w2.heap.size ≤ b') (l2 : w2.heap.size ≤ c') (hne : b' ≠ c') (hbase : base ≤ w2.heap.size) (hf : O.length < 6) :
    RunsAt ((w4.setCell ⟨bb, 0, none⟩ (.pointer (some ⟨b', 0, none⟩))).setCell ⟨bb, 1, none⟩ (.pointer (some ⟨c', 0, none⟩))) base bb b' c' s v' (O ++ [(b, c, s)]) := by
  have X := hx.below hg
  have hblk : ∀ k, k ≠ bb → ((w4.setCell ⟨bb, 0, none⟩ (.pointer (some ⟨b', 0, none⟩))).setCell ⟨bb, 1, none⟩ (.pointer (some ⟨c', 0, none⟩))).heap[k]? = w4.heap[k]? := fun k hk =>
    (Below.heap_setCell _ ⟨bb, 1, none⟩ _ k (fun e => hk e)).trans (Below.heap_setCell _ ⟨bb, 0, none⟩ _ k (fun e => hk e))
  have hsz : w4.heap.size ≤ ((w4.setCell ⟨bb, 0, none⟩ (.pointer (some ⟨b', 0, none⟩))).setCell ⟨bb, 1, none⟩ (.pointer (some ⟨c', 0, none⟩))).heap.size := by simp [World.setCell]
  have nb : ∀ {g hh : Nat} {s : WarmS}, BothAt w4 g hh s → BothAt ((w4.setCell ⟨bb, 0, none⟩ (.pointer (some ⟨b', 0, none⟩))).setCell ⟨bb, 1, none⟩ (.pointer (some ⟨c', 0, none⟩))) g hh s := fun q =>
    ⟨q.p.of_block (hblk _ (fun e => box_not X q.p.c0 e.symm)) hsz, q.r.of_block (hblk _ (fun e => box_not X q.r.c0 e.symm)) hsz, q.ok⟩
  have hl := hx.lt
  have f0 := X.fr 0
  have f1 := X.fr 1
  have x0 := X.x0
  have x1 := X.x1
  refine ⟨nb hb, ⟨by simp [go_sem, x0, f0, f1], by simp [go_sem, x1, f0, f1], by simp [go_sem, X.fr], by have := X.lt; simp [go_sem]; omega⟩, hne, by omega, by omega, ?_, fun t ht => ?_, by simp; omega, fun e => by simp at e⟩
  · have h2' := own_below h2 hg
    refine ⟨h2'.1, ?_⟩
    rcases h2'.2 with hh | ⟨k, cap, cur, e1, hb1, hg1, rest⟩
    · exact Or.inl hh
    · exact Or.inr ⟨k, cap, cur, e1, hb1, (hblk k (by omega)).trans hg1, rest⟩
  · have hk : BothAt w2 t.1 t.2.1 t.2.2 := by
      rcases List.mem_append.1 ht with ht | ht
      · exact h3 t ht
      · simp at ht; subst ht; exact h1
    have k1 := hk.p.lt
    have k2 := hk.r.lt
    exact ⟨nb (hk.below hg), by omega, by omega, by omega, by omega⟩
theorem info_both : (Try.prog.info? 49).map (fun i => (i.zero, i.size, i.bytes)) = some (some (.agg #[.pointer none, .pointer none]), 2, 16) := by kernel_rfl
end Go.Proofs.Ytfcmacibblkdkaa
