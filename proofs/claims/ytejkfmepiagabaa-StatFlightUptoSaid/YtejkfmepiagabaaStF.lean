/- StatSeconds: two rows of numbers beside a node. -/
import Derived.Test.YtejkfmepiagabaaStE
import Derived.Test.YtejkfmepiagabaaOwn
import Derived.Test.YtejkfmepiagabaaRecs
namespace Go.Proofs.Ytejkfmepiagabaa
open Go.RowKit
set_option linter.unusedVariables false
set_option linter.unusedSimpArgs false

def rowI (l : List Int) : List Value := l.map (Value.int .i64)
theorem rowI_len (l : List Int) : (rowI l).length = l.length := by simp [rowI]
theorem rowI_snoc (l : List Int) (x : Int) : rowI (l ++ [x]) = rowI l ++ [.int .i64 x] := by simp [rowI]
theorem rowI_get {l : List Int} {j : Nat} {x : Int} (h : l[j]? = some x) : (rowI l)[j]? = some (.int .i64 x) := by simp [rowI, h]
theorem info_intF : (Try.prog.info? 3).map (fun i => (i.zero, i.size, i.bytes)) = some (some (.int .i64 0), 1, 8) := by kernel_rfl
def intO (x : Int) : Obj := .cells #[.int .i64 x] 3
theorem newsI (w : World) (x : Int) : ∀ j u, ([Value.int .i64 x])[j]? = some u → (w.alloc (intO x)).cell? ((⟨w.heap.size, 0, none⟩ : Addr).add j) = some u := by
  intro j u hu
  have hn : (w.alloc (intO x)).heap[w.heap.size]? = some (intO x) := (get_allocW w _ _).trans (if_pos rfl)
  rw [WideShapes.add_plain, Nat.zero_add]
  have hl : j < 1 := by have := (List.getElem?_eq_some_iff.1 hu).1; simpa using this
  obtain rfl : j = 0 := by omega
  have e : Value.int .i64 x = u := by simpa using hu
  rw [← e]; simp only [World.cell?, hn]; rfl
theorem run_append_int {base : Nat} {wr : World} {v : Value} {l : List Int} {n : Nat} (hown : wr.ownsRow base 3 1 v n (rowI l)) (hb : base ≤ wr.heap.size) (hj : n < 100000) (x : Int) (ty : TypeId) :
    ∃ v' w', (Builtin.append_ #[41, 41] ty #[v, .slice (some ⟨wr.heap.size, 0, none⟩) 1 1]).run Try.prog (wr.alloc (intO x)) = .ok v' w' ∧ w'.ownsRow base 3 1 v' (n + 1) (rowI (l ++ [x])) ∧ wr.grownBy w' v.ownBlock ∧ (v'.ownBlock = v.ownBlock ∨ v'.ownBlock = some (wr.heap.size + 1)) := by
  obtain ⟨i0, hi, hz0, hz1, hz2⟩ := info_parts info_intF
  obtain ⟨v', w', hr, h2, h3, h4⟩ := run_append_where (P := Try.prog) (wr.alloc (intO x)) base 41 ty 3 i0 _ 1 8 Try.underlying41 hi hz0 hz1 hz2 rfl (by decide) v n (rowI l) (hown.alloc _) ⟨wr.heap.size, 0, none⟩ 1 1 [Value.int .i64 x] rfl (newsI wr x) (by intro u hu; obtain rfl := List.mem_singleton.1 hu; rfl) (by unfold maxLen; omega) (by omega) (by simp; omega) (by decide)
  refine ⟨v', w', hr, by rw [rowI_snoc]; exact h2, ⟨h3.os, h3.tape, h3.output, by have := h3.size; simp at this; omega, fun k hk hne => (h3.block k (by simp; omega) hne).trans (Below.heap_alloc wr _ k hk)⟩, ?_⟩
  rcases h4 with h4 | h4
  · exact Or.inl h4
  · right; rw [h4]; simp
theorem ownsI_slice {w : World} {base n : Nat} {v : Value} {l : List Int} (h : w.ownsRow base 3 1 v n (rowI l)) : ∃ a cap, v = .slice a n cap ∧ n ≤ cap ∧ l.length = n ∧ ∀ j x, l[j]? = some x → ∃ g, a = some ⟨g, 0, none⟩ ∧ g < w.heap.size ∧ w.cell? ⟨g, j, none⟩ = some (.int .i64 x) := by
  have hn : l.length = n := by have := h.1; rw [rowI_len] at this; omega
  rcases h.2 with ⟨h1, h2⟩ | ⟨g, cap, cur, rfl, hb, hg, hnc, _⟩
  · have h0 : n = 0 := h2
    rw [h1, h0]
    exact ⟨none, 0, rfl, Nat.le_refl _, by omega, fun j x hj => absurd (List.getElem?_eq_some_iff.1 hj).1 (by omega)⟩
  · refine ⟨_, cap, rfl, hnc, hn, fun j x hj => ⟨g, rfl, (Array.getElem?_eq_some_iff.1 hg).1, ?_⟩⟩
    have hjl : j < n := by have := (List.getElem?_eq_some_iff.1 hj).1; omega
    exact (h.cellAt j (by omega)).trans (rowI_get hj)
theorem rowI_off {w w' : World} {base : Nat} {v : Value} {n : Nat} {xs : List Value} {S : Nat → Prop} (h : w.ownsRow base 3 1 v n xs) (ho : Off S w w') (hS : ∀ i, S i → i < base) : w'.ownsRow base 3 1 v n xs := by
  obtain ⟨h1, h2⟩ := h
  refine ⟨h1, ?_⟩
  rcases h2 with h2 | ⟨g, cap, cur, rfl, hb, hg, hrest⟩
  · exact Or.inl h2
  · exact Or.inr ⟨g, cap, cur, rfl, hb, (ho.block g (Array.getElem?_eq_some_iff.1 hg).1 (fun e => by have := hS g e; omega)).trans hg, hrest⟩

/-- A node, and two rows of numbers of the call's own. -/
structure SecA (w wr : World) (k : NBk) (base : Nat) (last : Int) (notes : List NoteW) (vt vc : Value) (T C : List Int) : Prop where
  node : NodeAt wr k last notes.length notes
  pass : PassL notes
  rt : wr.ownsRow base 3 1 vt T.length (rowI T)
  rc : wr.ownsRow base 3 1 vc C.length (rowI C)
  ap : ∀ i, vt.ownBlock = some i → vc.ownBlock ≠ some i
  bel : Below w.heap.size w wr
  sz : base ≤ wr.heap.size
/-- Where the node's blocks lie. -/
structure LieA (w : World) (k : NBk) (base : Nat) : Prop where
  own : ∀ i, NOwn k i → w.heap.size ≤ i ∧ i < base
  wb : w.heap.size ≤ base
structure BoxD (wr : World) (k : NBk) (vt vc : Value) (db : Nat) (O : Obj) : Prop where
  bx : wr.heap[db]? = some O
  nt : vt.ownBlock ≠ some db
  nc : vc.ownBlock ≠ some db
  nk : ¬ NOwn k db
theorem grown_below {w w' : World} (hb : Below w.heap.size w w') (row : Option Nat) : w.grownBy w' row := ⟨hb.os, hb.tape, hb.output, hb.size, fun k hk _ => hb.block k hk⟩
theorem own_kept {w w' : World} {base n : Nat} {v : Value} {xs : List Value} (h : w.ownsRow base 3 1 v n xs) (hb : Below w.heap.size w w') : w'.ownsRow base 3 1 v n xs :=
  h.kept (row := none) (grown_below hb none) (by cases h : v.ownBlock <;> simp)
theorem SecA.below {w wr w' : World} {k : NBk} {base : Nat} {last : Int} {notes : List NoteW} {vt vc : Value} {T C : List Int} (h : SecA w wr k base last notes vt vc T C) (hb : Below wr.heap.size wr w') : SecA w w' k base last notes vt vc T C :=
  ⟨h.node.below hb, h.pass, own_kept h.rt hb, own_kept h.rc hb, h.ap, h.bel.trans (hb.mono h.bel.size), Nat.le_trans h.sz hb.size⟩
theorem BoxD.lt {wr : World} {k : NBk} {vt vc : Value} {db : Nat} {O : Obj} (h : BoxD wr k vt vc db O) : db < wr.heap.size := (Array.getElem?_eq_some_iff.1 h.bx).1
/-- The box just made. -/
theorem boxD_new {w wr : World} {k : NBk} {base : Nat} {last : Int} {notes : List NoteW} {vt vc : Value} {T C : List Int} (h : SecA w wr k base last notes vt vc T C) (O : Obj) : BoxD (wr.alloc O) k vt vc wr.heap.size O :=
  ⟨(get_allocW wr O wr.heap.size).trans (if_pos rfl), fun e => by have := (h.rt.lt _ e).2; omega, fun e => by have := (h.rc.lt _ e).2; omega, fun e => by have := h.node.lt e; omega⟩
/-- A pass. -/
theorem SecA.passed {w w1 w2 : World} {k : NBk} {base : Nat} {last at_ : Int} {notes : List NoteW} {vt vc : Value} {T C ns : List Int} (h : SecA w w1 k base last notes vt vc T C) (hL : LieA w k base)
    (hn : NodeAt w2 k at_ ((notes.length : Int) + ns.length) (notes ++ newW at_ (ns.map passC))) (ho : Off (NOwn k) w1 w2) (hns : ∀ n, n ∈ ns → 1 ≤ n ∧ n ≤ 1099511627776) : SecA w w2 k base at_ (notes ++ newW at_ (ns.map passC)) vt vc T C :=
  ⟨by simpa [newW] using hn, by
    intro x hx
    rcases List.mem_append.1 hx with hx | hx
    · exact h.pass x hx
    · simp only [newW, List.map_map, List.mem_map, Function.comp] at hx
      obtain ⟨n, hn, rfl⟩ := hx
      exact ⟨rfl, (hns n hn).1, (hns n hn).2⟩, rowI_off h.rt ho (fun i hi => (hL.own i hi).2), rowI_off h.rc ho (fun i hi => (hL.own i hi).2), h.ap,
    h.bel.trans (ho.below h.bel.size (fun i hi e => by have := (hL.own i e).1; omega)), Nat.le_trans h.sz ho.size⟩
theorem BoxD.passed {w1 w2 : World} {k : NBk} {vt vc : Value} {db : Nat} {O : Obj} (h : BoxD w1 k vt vc db O) (ho : Off (NOwn k) w1 w2) : BoxD w2 k vt vc db O :=
  ⟨(ho.block db h.lt h.nk).trans h.bx, h.nt, h.nc, h.nk⟩
/-- One more time. -/
theorem SecA.pushT {w wr : World} {k : NBk} {base : Nat} {last : Int} {notes : List NoteW} {vt vc : Value} {T C : List Int} (h : SecA w wr k base last notes vt vc T C) (hL : LieA w k base) (hT : T.length < 100000) (x : Int) (ty : TypeId) :
    ∃ v' w', (Builtin.append_ #[41, 41] ty #[vt, .slice (some ⟨wr.heap.size, 0, none⟩) 1 1]).run Try.prog (wr.alloc (intO x)) = .ok v' w' ∧ SecA w w' k base last notes v' vc (T ++ [x]) C ∧ (∀ db O, BoxD wr k vt vc db O → BoxD w' k v' vc db O) := by
  obtain ⟨v', w', hr, ho, hg, hv⟩ := run_append_int h.rt h.sz hT x ty
  have hap : ∀ i, v'.ownBlock = some i → vc.ownBlock ≠ some i := fun i hi e => by
    rcases hv with hv | hv
    · exact h.ap i (hv.symm.trans hi) e
    · have := (h.rc.lt i e).2
      rw [hv] at hi
      have := Option.some.inj hi
      omega
  refine ⟨v', w', hr, ⟨h.node.kept (fun i hi => hg.block i (h.node.lt hi) (fun e => by have := (h.rt.lt i e.symm).1; have := (hL.own i hi).2; omega)), h.pass, by simpa using ho, h.rc.kept hg ?_, hap,
    h.bel.grown hg h.bel.size (fun i e => by have := (h.rt.lt i e).1; have := hL.wb; omega), Nat.le_trans h.sz hg.size⟩, fun db O hb => ⟨(hg.block db hb.lt (fun e => hb.nt e.symm)).trans hb.bx, ?_, hb.nc, hb.nk⟩⟩
  · cases hc : vc.ownBlock with
    | none => exact Or.inl rfl
    | some i => exact Or.inr (fun e => h.ap i e.symm hc)
  · rcases hv with hv | hv
    · rw [hv]; exact hb.nt
    · rw [hv]; intro e; have := Option.some.inj e; have := hb.lt; omega
/-- One more count. -/
theorem SecA.pushC {w wr : World} {k : NBk} {base : Nat} {last : Int} {notes : List NoteW} {vt vc : Value} {T C : List Int} (h : SecA w wr k base last notes vt vc T C) (hL : LieA w k base) (hT : C.length < 100000) (x : Int) (ty : TypeId) :
    ∃ v' w', (Builtin.append_ #[41, 41] ty #[vc, .slice (some ⟨wr.heap.size, 0, none⟩) 1 1]).run Try.prog (wr.alloc (intO x)) = .ok v' w' ∧ SecA w w' k base last notes vt v' T (C ++ [x]) ∧ (∀ db O, BoxD wr k vt vc db O → BoxD w' k vt v' db O) := by
  obtain ⟨v', w', hr, ho, hg, hv⟩ := run_append_int h.rc h.sz hT x ty
  have hap : ∀ i, vt.ownBlock = some i → v'.ownBlock ≠ some i := fun i hi e => by
    rcases hv with hv | hv
    · exact h.ap i hi (hv.symm.trans e)
    · have := (h.rt.lt i hi).2
      rw [hv] at e
      have := Option.some.inj e
      omega
  refine ⟨v', w', hr, ⟨h.node.kept (fun i hi => hg.block i (h.node.lt hi) (fun e => by have := (h.rc.lt i e.symm).1; have := (hL.own i hi).2; omega)), h.pass, h.rt.kept hg ?_, by simpa using ho, hap,
    h.bel.grown hg h.bel.size (fun i e => by have := (h.rc.lt i e).1; have := hL.wb; omega), Nat.le_trans h.sz hg.size⟩, fun db O hb => ⟨(hg.block db hb.lt (fun e => hb.nc e.symm)).trans hb.bx, hb.nt, ?_, hb.nk⟩⟩
  · cases hc : vt.ownBlock with
    | none => exact Or.inl rfl
    | some i => exact Or.inr (fun e => h.ap i hc e.symm)
  · rcases hv with hv | hv
    · rw [hv]; exact hb.nc
    · rw [hv]; intro e; have := Option.some.inj e; have := hb.lt; omega
theorem IntsAt.belowF {w w' : World} {a : Option Addr} {xs : List Int} (h : IntsAt w a xs) (hb : Below w.heap.size w w') : IntsAt w' a xs := by
  rcases h with h | ⟨b, off, e, hbl, hc⟩
  · exact Or.inl h
  · exact Or.inr ⟨b, off, e, Nat.lt_of_lt_of_le hbl hb.size, fun j hj => (hb.cell hbl).trans (hc j hj)⟩
theorem times_snoc (notes : List NoteW) (at_ : Int) (ns : List Int) : (notes ++ newW at_ (ns.map passC)).map NoteW.at_ = notes.map NoteW.at_ ++ ns.map (fun _ => at_) := by simp [newW, Function.comp_def]
theorem counts_snoc (notes : List NoteW) (at_ : Int) (ns : List Int) : (notes ++ newW at_ (ns.map passC)).map (fun x => x.c.p) = notes.map (fun x => x.c.p) ++ ns := by simp [newW, Function.comp_def, passC]
end Go.Proofs.Ytejkfmepiagabaa
