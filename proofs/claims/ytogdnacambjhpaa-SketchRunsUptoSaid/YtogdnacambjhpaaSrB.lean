/- SketchRuns: pairs of a sketch and the reference's one. -/
import Derived.Test.YtogdnacambjhpaaSrA
namespace Go.Proofs.Ytogdnacambjhpaa
open Go.RowKit
set_option linter.unusedVariables false
set_option linter.unusedSimpArgs false

structure PairS where
  s : Nat
  q : Nat
  v : Value
  v6 : Value
  bs : List BkS
  last : Int
  ns : List NoteS
def PairOwn (P : PairS) (i : Nat) : Prop := SkOwn P.s P.v P.bs i ∨ R6Own P.q P.v6 i
structure PairAt (w : World) (h : ShapeS) (b : Int) (P : PairS) : Prop where
  sk : SkInv w P.s h b P.last P.ns P.v P.bs
  r6 : R6At w P.q h P.last P.v6 P.ns
  apart : ∀ i, SkOwn P.s P.v P.bs i → ¬ R6Own P.q P.v6 i
theorem R6At.ownLt {w : World} {q : Nat} {h : ShapeS} {last : Int} {v : Value} {ns : List NoteS} (k : R6At w q h last v ns) {i : Nat} (hi : R6Own q v i) : i < w.heap.size := by
  rcases hi with rfl | e
  · exact k.lt
  · exact (k.row.lt i e).2
theorem PairAt.lt {w : World} {h : ShapeS} {b : Int} {P : PairS} (k : PairAt w h b P) {i : Nat} (hi : PairOwn P i) : i < w.heap.size := by
  rcases hi with h1 | h1
  · exact k.sk.at_.lt h1
  · exact k.r6.ownLt h1
theorem PairAt.kept {w w' : World} {h : ShapeS} {b : Int} {P : PairS} (k : PairAt w h b P) (hk : ∀ i, PairOwn P i → w'.heap[i]? = w.heap[i]?) : PairAt w' h b P :=
  ⟨⟨k.sk.at_.kept (fun i hi => hk i (Or.inl hi)), k.sk.inv⟩, k.r6.kept (fun i hi => hk i (Or.inr hi)), k.apart⟩
theorem PairAt.below {w w' : World} {h : ShapeS} {b : Int} {P : PairS} (k : PairAt w h b P) (hb : Below w.heap.size w w') : PairAt w' h b P := k.kept (fun i hi => hb.block i (k.lt hi))
/-- All pairs; the present one apart from the old ones. -/
structure PairsAt (w : World) (h : ShapeS) (b : Int) (olds : List PairS) (cur : PairS) : Prop where
  each : ∀ P, P ∈ olds ++ [cur] → PairAt w h b P
  apart : ∀ P, P ∈ olds → ∀ k, PairOwn P k → ¬ PairOwn cur k
theorem PairsAt.below {w w' : World} {h : ShapeS} {b : Int} {olds : List PairS} {cur : PairS} (k : PairsAt w h b olds cur) (hb : Below w.heap.size w w') : PairsAt w' h b olds cur := ⟨fun P hP => (k.each P hP).below hb, k.apart⟩
theorem PairsAt.cur {w : World} {h : ShapeS} {b : Int} {olds : List PairS} {cur : PairS} (k : PairsAt w h b olds cur) : PairAt w h b cur := k.each cur (by simp)
def PairS.vals (P : PairS) : List Value := [.pointer (some ⟨P.s, 0, none⟩), .pointer (some ⟨P.q, 0, none⟩)]
def flatP2 (Ps : List PairS) : List Value := Ps.flatMap PairS.vals
theorem flatP2_len : ∀ Ps : List PairS, (flatP2 Ps).length = Ps.length * 2
  | [] => rfl
  | x :: Ps => by simp only [flatP2, List.flatMap_cons, List.length_append, List.length_cons]; rw [show (Ps.flatMap PairS.vals).length = Ps.length * 2 from flatP2_len Ps]; simp [PairS.vals]; omega
theorem flatP2_get : ∀ {Ps : List PairS} {j : Nat} {x : PairS}, Ps[j]? = some x → ∀ k, k < 2 → (flatP2 Ps)[j * 2 + k]? = x.vals[k]?
  | y :: Ps, 0, x, h, k, hk => by
    obtain rfl : y = x := by simpa using h
    show (y.vals ++ flatP2 Ps)[0 * 2 + k]? = _
    rw [Nat.zero_mul, Nat.zero_add, List.getElem?_append_left (by simp [PairS.vals]; omega)]
  | y :: Ps, j + 1, x, h, k, hk => by
    have ih := flatP2_get (Ps := Ps) (j := j) (x := x) (by simpa using h) k hk
    show (y.vals ++ flatP2 Ps)[(j + 1) * 2 + k]? = _
    rw [List.getElem?_append_right (by simp [PairS.vals]; omega), show (j + 1) * 2 + k - y.vals.length = j * 2 + k by simp [PairS.vals]; omega]
    exact ih
/-- What stands between two rounds; X: further blocks, of nobody. -/
structure SrI (w wr : World) (B : Nat) (h : ShapeS) (b : Int) (olds : List PairS) (cur : PairS) (vO : Value) (N : Nat) (X : List Nat) : Prop where
  bel : Below w.heap.size w wr
  base : w.heap.size ≤ B
  box : wr.heap[B]? = some (.cells #[.pointer (some ⟨cur.s, 0, none⟩), .pointer (some ⟨cur.q, 0, none⟩)] 47)
  pairs : PairsAt wr h b olds cur
  row : wr.ownsRow w.heap.size 47 2 vO olds.length (flatP2 olds)
  own : ∀ P, P ∈ olds ++ [cur] → ∀ i, PairOwn P i → w.heap.size ≤ i ∧ i ≠ B ∧ vO.ownBlock ≠ some i ∧ i ∉ X
  rowBox : vO.ownBlock ≠ some B ∧ ∀ k, k ∈ X → vO.ownBlock ≠ some k
  xs : ∀ k, k ∈ X → k ≠ B ∧ w.heap.size ≤ k ∧ k < wr.heap.size
  few : olds.length ≤ 4
  notes : cur.ns.length ≤ N * 1048576
  bks : cur.bs.length ≤ 1099511627777
theorem SrI.below {w wr wx : World} {B : Nat} {h : ShapeS} {b : Int} {olds : List PairS} {cur : PairS} {vO : Value} {N : Nat} {X : List Nat} (k : SrI w wr B h b olds cur vO N X) (hb : Below wr.heap.size wr wx) : SrI w wx B h b olds cur vO N X :=
  ⟨k.bel.trans (hb.mono k.bel.size), k.base, (hb.block B (Array.getElem?_eq_some_iff.1 k.box).1).trans k.box, k.pairs.below hb, r6_row k.row (fun g e => hb.block g (k.row.lt g e).2), k.own, k.rowBox, fun i hi => ⟨(k.xs i hi).1, (k.xs i hi).2.1, Nat.lt_of_lt_of_le (k.xs i hi).2.2 hb.size⟩, k.few, k.notes, k.bks⟩
/-- A new block beside. -/
theorem SrI.fresh {w wr wx : World} {B : Nat} {h : ShapeS} {b : Int} {olds : List PairS} {cur : PairS} {vO : Value} {N : Nat} {X : List Nat} (k : SrI w wr B h b olds cur vO N X) (hb : Below wr.heap.size wr wx) {D : Nat} (h0 : wr.heap.size ≤ D) (h1 : D < wx.heap.size) : SrI w wx B h b olds cur vO N (D :: X) := by
  have hB := (Array.getElem?_eq_some_iff.1 k.box).1
  have kx := k.below hb
  refine ⟨kx.bel, kx.base, kx.box, kx.pairs, kx.row, fun P hP i hi => ?_, ⟨k.rowBox.1, fun i hi => ?_⟩, fun i hi => ?_, k.few, k.notes, k.bks⟩
  · obtain ⟨a1, a2, a3, a4⟩ := k.own P hP i hi
    have := (k.pairs.each P hP).lt hi
    refine ⟨a1, a2, a3, fun hm => ?_⟩
    rcases List.mem_cons.1 hm with e | e
    · omega
    · exact a4 e
  · rcases List.mem_cons.1 hi with e | e
    · subst e; intro e2; have := (k.row.lt _ e2).2; omega
    · exact k.rowBox.2 i e
  · rcases List.mem_cons.1 hi with e | e
    · subst e; exact ⟨by omega, by have := k.bel.size; omega, h1⟩
    · have := k.xs i e; have := hb.size; exact ⟨(k.xs i e).1, (k.xs i e).2.1, by omega⟩
theorem SrI.drop {w wr : World} {B : Nat} {h : ShapeS} {b : Int} {olds : List PairS} {cur : PairS} {vO : Value} {N : Nat} {X : List Nat} (k : SrI w wr B h b olds cur vO N X) {M : Nat} (hM : N ≤ M) : SrI w wr B h b olds cur vO M [] :=
  ⟨k.bel, k.base, k.box, k.pairs, k.row, fun P hP i hi => ⟨(k.own P hP i hi).1, (k.own P hP i hi).2.1, (k.own P hP i hi).2.2.1, by simp⟩, ⟨k.rowBox.1, by simp⟩, by simp, k.few, Nat.le_trans k.notes (Nat.mul_le_mul_right _ hM), k.bks⟩
/-- The present pair turns. -/
theorem SrI.turn {w wr wx : World} {B : Nat} {h : ShapeS} {b : Int} {olds : List PairS} {cur cur' : PairS} {vO : Value} {N N' : Nat} {X : List Nat} (k : SrI w wr B h b olds cur vO N X) (off : Off (PairOwn cur) wr wx) (hp : PairAt wx h b cur') (hs : cur'.s = cur.s) (hq : cur'.q = cur.q)
    (own' : ∀ i, PairOwn cur' i → PairOwn cur i ∨ wr.heap.size ≤ i) (hn : cur'.ns.length ≤ N' * 1048576) (hbk : cur'.bs.length ≤ 1099511627777) : SrI w wx B h b olds cur' vO N' X := by
  have hc := k.own cur (by simp)
  have hB := (Array.getElem?_eq_some_iff.1 k.box).1
  refine ⟨k.bel.trans (off.below k.bel.size (fun i hi ho => by have := (hc i ho).1; omega)), k.base, ?_, ⟨fun P hP => ?_, fun P hP i hi ho => ?_⟩, r6_row k.row (fun g e => off.block g (k.row.lt g e).2 (fun ho => (hc g ho).2.2.1 e)), fun P hP i hi => ?_, k.rowBox, fun i hi => ⟨(k.xs i hi).1, (k.xs i hi).2.1, Nat.lt_of_lt_of_le (k.xs i hi).2.2 off.size⟩, k.few, hn, hbk⟩
  · rw [hs, hq]
    exact (off.block B hB (fun ho => (hc B ho).2.1 rfl)).trans k.box
  · rcases List.mem_append.1 hP with h1 | h1
    · exact (k.pairs.each P (by simp [h1])).kept (fun i hi => off.block i ((k.pairs.each P (by simp [h1])).lt hi) (k.pairs.apart P h1 i hi))
    · obtain rfl := List.mem_singleton.1 h1; exact hp
  · rcases own' i ho with h1 | h1
    · exact k.pairs.apart P hP i hi h1
    · have := (k.pairs.each P (by simp [hP])).lt hi; omega
  · rcases List.mem_append.1 hP with h1 | h1
    · exact k.own P (by simp [h1]) i hi
    · obtain rfl := List.mem_singleton.1 h1
      rcases own' i hi with h2 | h2
      · exact hc i h2
      · refine ⟨by have := k.bel.size; omega, by omega, fun e => by have := (k.row.lt i e).2; omega, fun e => by have := (k.xs i e).2.2; omega⟩
theorem sr_start {w w4 : World} {h : ShapeS} {b : Int} {s q : Nat} (hb : Below w.heap.size w w4) (k : SkInv w4 s h b 0 [] (.slice none 0 0) []) (k6 : R6At w4 q h 0 (.slice none 0 0) []) (hs : w.heap.size ≤ s) (hq : w.heap.size ≤ q) (hne : s ≠ q := by omega) :
    SrI w (w4.alloc (.cells #[.pointer (some ⟨s, 0, none⟩), .pointer (some ⟨q, 0, none⟩)] 47)) w4.heap.size h b [] ⟨s, q, .slice none 0 0, .slice none 0 0, [], 0, []⟩ (.slice none 0 0) 0 [] := by
  have hal : Below w4.heap.size w4 (w4.alloc (.cells #[.pointer (some ⟨s, 0, none⟩), .pointer (some ⟨q, 0, none⟩)] 47)) := (Below.refl _ _).alloc (Nat.le_refl _) _
  have hp : PairAt w4 h b ⟨s, q, .slice none 0 0, .slice none 0 0, [], 0, []⟩ := ⟨k, k6, fun i hi hj => by
    unfold SkOwn at hi
    unfold R6Own at hj
    simp [Value.ownBlock] at hi hj
    omega⟩
  refine ⟨hb.trans (hal.mono hb.size), hb.size, new_blockS w4 _, ⟨fun P hP => ?_, by simp⟩, World.ownsRow_nil _ _ _ _, fun P hP i hi => ?_, ⟨by simp [Value.ownBlock], by simp⟩, by simp, by simp, by simp, by simp⟩
  · obtain rfl := List.mem_singleton.1 hP; exact hp.below hal
  · obtain rfl := List.mem_singleton.1 hP
    have hlt := hp.lt hi
    refine ⟨?_, by omega, by simp [Value.ownBlock], by simp⟩
    rcases hi with h1 | h1
    · unfold SkOwn at h1; simp [Value.ownBlock] at h1; omega
    · unfold R6Own at h1; simp [Value.ownBlock] at h1; omega
end Go.Proofs.Ytogdnacambjhpaa
