/- SketchRuns: the fork of a pair. -/
import Derived.Test.YtogdnacambjhpaaSrB
namespace Go.Proofs.Ytogdnacambjhpaa
open Go.RowKit
set_option linter.unusedVariables false
set_option linter.unusedSimpArgs false

theorem SrI.forked {w wr wx : World} {B : Nat} {h : ShapeS} {b : Int} {olds : List PairS} {cur cur' : PairS} {vO vO' : Value} {N : Nat} {X : List Nat} (k : SrI w wr B h b olds cur vO N X) (hfew : olds.length < 4) (hz : wr.heap.size ≤ wx.heap.size) (bel : Below w.heap.size w wx)
    (keep : ∀ i, i < wr.heap.size → i ≠ B → vO.ownBlock ≠ some i → wx.heap[i]? = wr.heap[i]?)
    (box : wx.heap[B]? = some (.cells #[.pointer (some ⟨cur'.s, 0, none⟩), .pointer (some ⟨cur'.q, 0, none⟩)] 47))
    (row : wx.ownsRow w.heap.size 47 2 vO' (olds.length + 1) (flatP2 (olds ++ [cur])))
    (rowOwn : ∀ g, vO'.ownBlock = some g → vO.ownBlock = some g ∨ (wr.heap.size ≤ g ∧ ¬ PairOwn cur' g))
    (hp : PairAt wx h b cur') (own' : ∀ i, PairOwn cur' i → wr.heap.size ≤ i) (hn : cur'.ns.length ≤ N * 1048576) (hbk : cur'.bs.length ≤ 1099511627777) : SrI w wx B h b (olds ++ [cur]) cur' vO' N X := by
  have hB := (Array.getElem?_eq_some_iff.1 k.box).1
  have hbw := k.bel.size
  refine ⟨bel, k.base, box, ⟨fun P hP => ?_, fun P hP i hi ho => ?_⟩, by rw [List.length_append]; exact row, fun P hP i hi => ?_, ⟨fun e => ?_, fun i hi e => ?_⟩, fun i hi => ⟨(k.xs i hi).1, (k.xs i hi).2.1, Nat.lt_of_lt_of_le (k.xs i hi).2.2 hz⟩, by simp; omega, hn, hbk⟩
  · rcases List.mem_append.1 hP with h1 | h1
    · exact (k.pairs.each P h1).kept (fun i hi => keep i ((k.pairs.each P h1).lt hi) (k.own P h1 i hi).2.1 (k.own P h1 i hi).2.2.1)
    · obtain rfl := List.mem_singleton.1 h1; exact hp
  · have := (k.pairs.each P hP).lt hi
    have := own' i ho
    omega
  · rcases List.mem_append.1 hP with h1 | h1
    · have hlt := (k.pairs.each P h1).lt hi
      obtain ⟨a1, a2, a3, a4⟩ := k.own P h1 i hi
      refine ⟨a1, a2, fun e => ?_, a4⟩
      rcases rowOwn i e with h2 | h2
      · exact a3 h2
      · omega
    · obtain rfl := List.mem_singleton.1 h1
      have hge := own' i hi
      refine ⟨by omega, by omega, fun e => ?_, fun e => by have := (k.xs i e).2.2; omega⟩
      rcases rowOwn i e with h2 | h2
      · have := (k.row.lt i h2).2; omega
      · exact h2.2 hi
  · rcases rowOwn B e with h2 | h2
    · exact k.rowBox.1 h2
    · omega
  · rcases rowOwn i e with h2 | h2
    · exact k.rowBox.2 i hi h2
    · have := (k.xs i hi).2.2; omega
/-- Both are added to. -/
theorem sr_add {w wr w3 w4 : World} {B : Nat} {h : ShapeS} {b : Int} {olds : List PairS} {cur : PairS} {vO : Value} {N N' : Nat} {X : List Nat} (k : SrI w wr B h b olds cur vO N X) {L : Int} {NS : List NoteS} {v' v6' : Value} {bs' : List BkS}
    (h1 : SkInv w3 cur.s h b L NS v' bs') (o1 : Off (SkOwn cur.s cur.v cur.bs) wr w3) (own1 : ∀ i, SkOwn cur.s v' bs' i → SkOwn cur.s cur.v cur.bs i ∨ wr.heap.size ≤ i)
    (h2 : R6At w4 cur.q h L v6' NS) (o2 : Off (R6Own cur.q cur.v6) w3 w4) (own2 : ∀ i, R6Own cur.q v6' i → R6Own cur.q cur.v6 i ∨ w3.heap.size ≤ i) (hn : NS.length ≤ N' * 1048576) (hbk : bs'.length ≤ 1099511627777) :
    SrI w w4 B h b olds ⟨cur.s, cur.q, v', v6', bs', L, NS⟩ vO N' X ∧ Off (PairOwn cur) wr w4 := by
  have kc := k.pairs.cur
  have z1 := o1.size
  have off : Off (PairOwn cur) wr w4 := (o1.mono (S' := PairOwn cur) (fun i _ h => Or.inl h)).trans o2 (fun i _ h => Or.inr h)
  refine ⟨k.turn (cur' := ⟨cur.s, cur.q, v', v6', bs', L, NS⟩) off ⟨⟨h1.at_.kept (fun i hi => o2.block i (h1.at_.lt hi) (fun hr => ?_)), h1.inv⟩, h2, fun i hi hr => ?_⟩ rfl rfl (fun i hi => ?_) hn hbk, off⟩
  · rcases own1 i hi with h | h
    · exact kc.apart i h hr
    · have := kc.r6.ownLt hr; omega
  · rcases own2 i hr with h | h
    · rcases own1 i hi with g | g
      · exact kc.apart i g h
      · have := kc.r6.ownLt h; omega
    · have := h1.at_.lt hi
      omega
  · rcases hi with h | h
    · rcases own1 i h with g | g
      · exact Or.inl (Or.inl g)
      · exact Or.inr g
    · rcases own2 i h with g | g
      · exact Or.inl (Or.inr g)
      · exact Or.inr (by omega)
theorem newNotes_len (at_ : Int) (key : ByteArray) (ns : List Int) : (newNotes at_ key ns).length = ns.length := by simp [newNotes]
theorem off_drewR {S : Nat → Prop} {w : World} {m : Nat} : Off S w (w.drewN m) := ⟨rfl, rfl, rfl, Nat.le_refl _, fun _ _ _ => rfl⟩
/-- A round's Add. -/
theorem sr_addE {w wr w3 w4 : World} {B : Nat} {h : ShapeS} {b : Int} {olds : List PairS} {cur : PairS} {vO : Value} {N : Nat} {X : List Nat} (k : SrI w wr B h b olds cur vO N X) {at_ : Int} {key : ByteArray} {nn : List Int} {v' : Value} {bs' : List BkS} {e : Ending}
    (h1 : SkInv w3 cur.s h b (if addE cur.last at_ nn = 0 then at_ else cur.last) (if addE cur.last at_ nn = 0 then cur.ns ++ newNotes at_ key nn else cur.ns) v' bs') (o1 : Off (SkOwn cur.s cur.v cur.bs) wr w3) (own1 : ∀ i, SkOwn cur.s v' bs' i → SkOwn cur.s cur.v cur.bs i ∨ wr.heap.size ≤ i) (hbk : bs'.length ≤ 1099511627777)
    (h2 : R6Add w3 w4 cur.q h cur.v6 cur.last at_ cur.ns e nn key) (hnn : nn.length ≤ 1048576) :
    ∃ cur', SrI w w4 B h b olds cur' vO (N + 1) X ∧ cur'.s = cur.s ∧ cur'.q = cur.q ∧ ∀ i, i < wr.heap.size → i = B ∨ i ∈ X → w4.heap[i]? = wr.heap[i]? := by
  have kc := k.pairs.cur
  have kn := k.notes
  have r3 : R6At w3 cur.q h cur.last cur.v6 cur.ns := kc.r6.kept (fun i hi => o1.block i (kc.r6.ownLt hi) (fun hs => kc.apart i hs hi))
  have fin : ∀ {cur' : PairS}, SrI w w4 B h b olds cur' vO (N + 1) X ∧ Off (PairOwn cur) wr w4 → cur'.s = cur.s → cur'.q = cur.q → ∃ cur', SrI w w4 B h b olds cur' vO (N + 1) X ∧ cur'.s = cur.s ∧ cur'.q = cur.q ∧ ∀ i, i < wr.heap.size → i = B ∨ i ∈ X → w4.heap[i]? = wr.heap[i]? := fun {cur'} g es eq => ⟨cur', g.1, es, eq, fun i hi hx => g.2.block i hi (fun ho => by
    have := k.own cur (by simp) i ho
    rcases hx with h | h
    · exact this.2.1 h
    · exact this.2.2.2 h)⟩
  by_cases hE : addE cur.last at_ nn = 0
  · rw [if_pos hE, if_pos hE] at h1
    obtain ⟨v6', g1, g2, g3⟩ := h2.yes hE
    exact fin (sr_add k (N' := N + 1) h1 o1 own1 g1 g2 g3 (by rw [List.length_append, newNotes_len]; omega) hbk) rfl rfl
  · rw [if_neg hE, if_neg hE] at h1
    obtain ⟨m, rfl⟩ := h2.no hE
    exact fin (sr_add k (N' := N + 1) h1 o1 own1 (r3.kept (fun _ _ => rfl)) off_drewR (fun i hi => Or.inl hi) (Nat.le_trans kn (Nat.mul_le_mul_right _ (Nat.le_succ N))) hbk) rfl rfl
/-- Behind the appending of the present pair. -/
theorem sr_pushed {w w1 w3 : World} {o : Obj} {B : Nat} {h : ShapeS} {b : Int} {olds : List PairS} {cur : PairS} {vO : Value} {N : Nat} {X : List Nat} (k : SrI w w1 B h b olds cur vO N X) (hg : (w1.alloc o).grownBy w3 vO.ownBlock) :
    Below w.heap.size w w3 ∧ w1.heap.size + 1 ≤ w3.heap.size ∧ (∀ i, i < w1.heap.size → vO.ownBlock ≠ some i → w3.heap[i]? = w1.heap[i]?) ∧ PairAt w3 h b cur ∧ w3.heap[B]? = some (.cells #[.pointer (some ⟨cur.s, 0, none⟩), .pointer (some ⟨cur.q, 0, none⟩)] 47) := by
  have hal : Below w1.heap.size w1 (w1.alloc o) := (Below.refl _ _).alloc (Nat.le_refl _) _
  have hz : (w1.alloc o).heap.size = w1.heap.size + 1 := by simp
  have hgz := hg.size
  have keep : ∀ i, i < w1.heap.size → vO.ownBlock ≠ some i → w3.heap[i]? = w1.heap[i]? := fun i hi hne => (hg.block i (by omega) (fun e => hne e.symm)).trans (hal.block i hi)
  have hB := (Array.getElem?_eq_some_iff.1 k.box).1
  have hbw := k.bel.size
  refine ⟨⟨hg.os.trans k.bel.os, hg.tape.trans k.bel.tape, hg.output.trans k.bel.output, by omega, fun i hi => (keep i (by omega) (fun e => by have := (k.row.lt i e).1; omega)).trans (k.bel.block i hi)⟩, by omega, keep, k.pairs.cur.kept (fun i hi => keep i (k.pairs.cur.lt hi) (k.own cur (by simp) i hi).2.2.1), (keep B hB k.rowBox.1).trans k.box⟩
/-- A fork, and the old pair behind the others. -/
theorem sr_fork {w w1 w3 w4 w5 : World} {o : Obj} {B : Nat} {h : ShapeS} {b : Int} {olds : List PairS} {cur : PairS} {vO v3 : Value} {N : Nat} {X : List Nat} (k : SrI w w1 B h b olds cur vO N X) (hfew : olds.length < 4) (hg : (w1.alloc o).grownBy w3 vO.ownBlock)
    (hown : w3.ownsRow w.heap.size 47 2 v3 (olds.length + 1) (flatP2 olds ++ cur.vals)) (hk3 : v3.ownBlock = vO.ownBlock ∨ v3.ownBlock = some (w1.alloc o).heap.size)
    {s' q' : Nat} {v' v6' : Value} {bs' : List BkS} (h4 : Below w3.heap.size w3 w4) (k4 : SkAt w4 s' h cur.last v' bs') (hm : bs'.map BkS.a = cur.bs.map BkS.a) (o4 : ∀ i, SkOwn s' v' bs' i → w3.heap.size ≤ i)
    (h5 : Below w4.heap.size w4 w5) (k5 : R6At w5 q' h cur.last v6' cur.ns) (o5 : ∀ i, R6Own q' v6' i → w4.heap.size ≤ i) :
    SrI w ((w5.setCell ⟨B, 0, none⟩ (.pointer (some ⟨s', 0, none⟩))).setCell ⟨B, 1, none⟩ (.pointer (some ⟨q', 0, none⟩))) B h b (olds ++ [cur]) ⟨s', q', v', v6', bs', cur.last, cur.ns⟩ v3 N X ∧
      ∀ i, i ∈ X → ((w5.setCell ⟨B, 0, none⟩ (.pointer (some ⟨s', 0, none⟩))).setCell ⟨B, 1, none⟩ (.pointer (some ⟨q', 0, none⟩))).heap[i]? = w1.heap[i]? := by
  obtain ⟨p1, p2, p3, p4, p5⟩ := sr_pushed k hg
  have h35 : Below w3.heap.size w3 w5 := h4.trans (h5.mono h4.size)
  have z4 := h4.size
  have z5 := h5.size
  have hB := (Array.getElem?_eq_some_iff.1 k.box).1
  have hS : ∀ i, i ≠ B → ((w5.setCell ⟨B, 0, none⟩ (.pointer (some ⟨s', 0, none⟩))).setCell ⟨B, 1, none⟩ (.pointer (some ⟨q', 0, none⟩))).heap[i]? = w5.heap[i]? := fun i hi => (heap_setCell_other _ _ _ _ (fun e => hi e)).trans (heap_setCell_other _ _ _ _ (fun e => hi e))
  have keep : ∀ i, i < w1.heap.size → i ≠ B → vO.ownBlock ≠ some i → ((w5.setCell ⟨B, 0, none⟩ (.pointer (some ⟨s', 0, none⟩))).setCell ⟨B, 1, none⟩ (.pointer (some ⟨q', 0, none⟩))).heap[i]? = w1.heap[i]? := fun i hi hne ho => (hS i hne).trans ((h35.block i (by omega)).trans (p3 i hi ho))
  have k4' := k4.below h5
  have hp : PairAt w5 h b ⟨s', q', v', v6', bs', cur.last, cur.ns⟩ := ⟨⟨k4', by show InvS _ _ _ _ _ _ _; rw [hm]; exact k.pairs.cur.sk.inv⟩, k5, fun i hi hr => by
    have := k4.lt hi
    have := o5 i hr
    omega⟩
  have hge : ∀ i, PairOwn ⟨s', q', v', v6', bs', cur.last, cur.ns⟩ i → w3.heap.size ≤ i := fun i hi => by
    rcases hi with h | h
    · exact o4 i h
    · have := o5 i h; omega
  have hvB : v3.ownBlock ≠ some B := fun e => by
    rcases hk3 with h | h
    · exact k.rowBox.1 (h.symm.trans e)
    · rw [h] at e; injection e with e; simp at e; omega
  refine ⟨k.forked hfew (by simp; omega) (((p1.trans (h35.mono p1.size)).setCell k.base _).setCell k.base _) keep ?_ ?_ (fun g e => ?_) (hp.kept (fun i hi => hS i (fun e => by have := hge i hi; omega))) (fun i hi => by have := hge i hi; omega) k.notes ?_, fun i hi => keep i (k.xs i hi).2.2 (k.xs i hi).1 (k.rowBox.2 i hi)⟩
  · have h1 := (h35.block B (by omega)).trans p5
    exact heap_setCell_same _ _ 1 _ _ _ (heap_setCell_same _ _ 0 _ _ _ h1)
  · refine r6_row ?_ (fun g e => (hS g (fun e2 => hvB (by rw [← e2]; exact e))).trans (h35.block g (hown.lt g e).2))
    rw [show flatP2 (olds ++ [cur]) = flatP2 olds ++ cur.vals by simp [flatP2]]
    exact hown
  · rcases hk3 with h | h
    · exact Or.inl (h.symm.trans e)
    · have hl := (hown.lt g e).2
      rw [h] at e; injection e with e; simp at e
      exact Or.inr ⟨by omega, fun ho => by have := hge g ho; omega⟩
  · have := congrArg List.length hm
    simp only [List.length_map] at this
    have := k.bks
    show bs'.length ≤ _
    omega
theorem two_cellsR (w : World) (x y : Value) (t : TypeId) : ∀ j v, ([x, y] : List Value)[j]? = some v → (w.alloc (.cells #[x, y] t)).cell? ((⟨w.heap.size, 0, none⟩ : Addr).add j) = some v := by
  intro j v hj
  have hn := new_blockS w (.cells #[x, y] t)
  rw [WideShapes.add_plain]
  simp only [World.cell?, hn]
  match j, hj with
  | 0, h => simpa using h
  | 1, h => simpa using h
theorem info_both : (Try.prog.info? 47).map (fun i => (i.zero, i.size, i.bytes)) = some (some (.agg #[.pointer none, .pointer none]), 2, 16) := by kernel_rfl
theorem sr_drew {w wr : World} {B : Nat} {h : ShapeS} {b : Int} {olds : List PairS} {cur : PairS} {vO : Value} {N : Nat} {X : List Nat} (k : SrI w wr B h b olds cur vO N X) : SrI w wr.drew B h b olds cur vO N X := k.below ((Below.refl _ wr).drew)
theorem sr_more {w wr : World} {B : Nat} {h : ShapeS} {b : Int} {olds : List PairS} {cur : PairS} {vO : Value} {N : Nat} {X : List Nat} (k : SrI w wr B h b olds cur vO N X) : SrI w wr B h b olds cur vO (N + 1) X :=
  ⟨k.bel, k.base, k.box, k.pairs, k.row, k.own, k.rowBox, k.xs, k.few, Nat.le_trans k.notes (Nat.mul_le_mul_right _ (Nat.le_succ N)), k.bks⟩
theorem sr_s17 {wx : World} {B0 D ps pq l c : Nat} {K at_ : Int} {key : ByteArray} {a' : Option Addr} (q1 : wx.heap[B0]? = some (.cells #[.pointer (some ⟨ps, 0, none⟩), .pointer (some ⟨pq, 0, none⟩)] 47)) (q2 : wx.heap[D]? = some (.cells #[.int .i64 K, .int .i64 at_, .string key, .slice a' l c] 33)) :
    wx.cell? ⟨B0, 0, none⟩ = some (.pointer (some ⟨ps, 0, none⟩)) ∧ wx.cell? ⟨B0, 1, none⟩ = some (.pointer (some ⟨pq, 0, none⟩)) ∧ wx.cell? ⟨D, 0, none⟩ = some (.int .i64 K) ∧ wx.cell? ⟨D, 1, none⟩ = some (.int .i64 at_) ∧ wx.cell? ⟨D, 2, none⟩ = some (.string key) ∧ wx.cell? ⟨D, 3, none⟩ = some (.slice a' l c) := by
  refine ⟨?_, ?_, ?_, ?_, ?_, ?_⟩ <;> simp [World.cell?, q1, q2]
theorem sr_s19 {w wx : World} {B0 : Nat} {h : ShapeS} {b : Int} {olds : List PairS} {cur : PairS} {vO : Value} {N : Nat} {X : List Nat} (k : SrI w wx B0 h b olds cur vO N X) {D l c : Nat} {K at_ : Int} {key : ByteArray} {a' : Option Addr} (q2 : wx.heap[D]? = some (.cells #[.int .i64 K, .int .i64 at_, .string key, .slice a' l c] 33)) :
    wx.cell? ⟨B0, 0, none⟩ = some (.pointer (some ⟨cur.s, 0, none⟩)) ∧ wx.cell? ⟨B0, 1, none⟩ = some (.pointer (some ⟨cur.q, 0, none⟩)) ∧ wx.cell? ⟨D, 1, none⟩ = some (.int .i64 at_) ∧ wx.cell? ⟨D, 2, none⟩ = some (.string key) ∧ wx.cell? ⟨cur.q, 6, none⟩ = some (.int .i64 cur.last) := by
  have q1 := k.box
  refine ⟨?_, ?_, ?_, ?_, k.pairs.cur.r6.cells.2.2.2.2.2.2⟩ <;> simp [World.cell?, q1, q2]
/-- What a round's Add wants. -/
structure SrO (w w6 : World) (B0 D g : Nat) (h : ShapeS) (b : Int) (olds : List PairS) (cur : PairS) (vO : Value) (N : Nat) (K at_ : Int) (key : ByteArray) (nn : List Int) (a' : Option Addr) (l c : Nat) : Prop where
  lb : B0 < w6.heap.size
  ld : D < w6.heap.size
  lg : g < w6.heap.size
  bx : w6.heap[B0]? = some (.cells #[.pointer (some ⟨cur.s, 0, none⟩), .pointer (some ⟨cur.q, 0, none⟩)] 47)
  dx : w6.heap[D]? = some (.cells #[.int .i64 K, .int .i64 at_, .string key, .slice a' l c] 33)
  sk : SkInv w6.drew cur.s h b cur.last cur.ns cur.v cur.bs
  hints : IntsAt w6.drew (some ⟨g, 0, none⟩) nn
  aps : nn ≠ [] → ∀ g' off, (some ⟨g, 0, none⟩ : Option Addr) = some ⟨g', off, none⟩ → ¬ SkOwn cur.s cur.v cur.bs g'
  bks : cur.bs.length ≤ 1099511627777
  box : ∀ {w7 : World}, Off (SkOwn cur.s cur.v cur.bs) w6.drew w7 → w7.heap[B0]? = some (.cells #[.pointer (some ⟨cur.s, 0, none⟩), .pointer (some ⟨cur.q, 0, none⟩)] 47)
  deed : ∀ {w7 : World}, Off (SkOwn cur.s cur.v cur.bs) w6.drew w7 → w7.heap[D]? = some (.cells #[.int .i64 K, .int .i64 at_, .string key, .slice a' l c] 33)
  r6 : ∀ {w7 : World}, Off (SkOwn cur.s cur.v cur.bs) w6.drew w7 → R6At w7 cur.q h cur.last cur.v6 cur.ns
  ints : ∀ {w7 : World}, Off (SkOwn cur.s cur.v cur.bs) w6.drew w7 → IntsAt w7 a' nn
  ap6 : nn ≠ [] → ∀ g' off, a' = some ⟨g', off, none⟩ → ¬ R6Own cur.q cur.v6 g'
  room : cur.ns.length + l ≤ 1099511627776
  both : ∀ {w7 w8 : World} {v' : Value} {bs' : List BkS} {e : Ending}, SkInv w7 cur.s h b (if addE cur.last at_ nn = 0 then at_ else cur.last) (if addE cur.last at_ nn = 0 then cur.ns ++ newNotes at_ key nn else cur.ns) v' bs' → Off (SkOwn cur.s cur.v cur.bs) w6.drew w7 → (∀ i, SkOwn cur.s v' bs' i → SkOwn cur.s cur.v cur.bs i ∨ w6.drew.heap.size ≤ i) → bs'.length ≤ 1099511627777 →
    R6Add w7 w8 cur.q h cur.v6 cur.last at_ cur.ns e nn key → ∃ cur', SrI w w8 B0 h b olds cur' vO (N + 1) [g, D] ∧ cur'.s = cur.s ∧ cur'.q = cur.q ∧ ∀ i, i < w6.heap.size → i = B0 ∨ i ∈ [g, D] → w8.heap[i]? = w6.heap[i]?
theorem sr_of {w w6 : World} {B0 D g : Nat} {h : ShapeS} {b : Int} {olds : List PairS} {cur : PairS} {vO : Value} {N : Nat} {K at_ : Int} {key : ByteArray} {nn : List Int} {a' : Option Addr} {l c len : Nat} (k : SrI w w6 B0 h b olds cur vO N [g, D]) (hd : w6.heap[D]? = some (.cells #[.int .i64 K, .int .i64 at_, .string key, .slice a' l c] 33)) (hh : HandAt w6 g nn) (hi : IntsAt w a' nn) (hl : nn.length = l) (hln : nn.length ≤ 1048576) (hN : N ≤ len) (hlt : N < len) (hm : len ≤ 1048576) :
    SrO w w6 B0 D g h b olds cur vO N K at_ key nn a' l c := by
  have k1 := sr_drew k
  have kx := k.xs
  have ko := k.own cur (by simp)
  have hB := (Array.getElem?_eq_some_iff.1 k.box).1
  have hsk : ∀ i, SkOwn cur.s cur.v cur.bs i → i ≠ B0 ∧ i ≠ g ∧ i ≠ D ∧ w.heap.size ≤ i := fun i hi => by
    obtain ⟨a1, a2, a3, a4⟩ := ko i (Or.inl hi)
    exact ⟨a2, fun e => a4 (by simp [e]), fun e => a4 (by simp [e]), a1⟩
  have hdl := (Array.getElem?_eq_some_iff.1 hd).1
  have bel : ∀ {w7 : World}, Off (SkOwn cur.s cur.v cur.bs) w6.drew w7 → Below w.heap.size w w7 := fun {w7} o => k1.bel.trans (o.below k1.bel.size (fun i hi hs => by have := (hsk i hs).2.2.2; omega))
  refine ⟨hB, hdl, World.rowIs.lt hh, k.box, hd, k1.pairs.cur.sk, HandAt.ints (w := w6.drew) hh, fun _ g' off e hs => ?_, k.bks, fun {w7} o => (o.block B0 hB (fun hs => (hsk B0 hs).1 rfl)).trans k.box, fun {w7} o => (o.block D hdl (fun hs => (hsk D hs).2.2.1 rfl)).trans hd, fun {w7} o => k1.pairs.cur.r6.kept (fun i hi => o.block i (k1.pairs.cur.r6.ownLt hi) (fun hs => k1.pairs.cur.apart i hs hi)), fun {w7} o => hi.belowS (bel o), fun hne g' off e ho => ?_, ?_, fun {w7 w8 v' bs' e} g1 o1 own1 hbk h2 => ?_⟩
  · injection e with e; injection e with e1 _; subst e1
    exact (hsk _ hs).2.1 rfl
  · rcases hi with h | ⟨b', off', rfl, hlt, _⟩
    · exact hne h
    · injection e with e; injection e with e1 _; subst e1
      have := (ko _ (Or.inr ho)).1
      omega
  · have hn := k.notes
    have h2 : (N + 1) * 1048576 ≤ 1048576 * 1048576 := Nat.mul_le_mul_right _ (by omega)
    rw [Nat.add_mul] at h2
    have h3 : 1048576 * 1048576 = 1099511627776 := by rfl
    rw [h3] at h2
    omega
  · have h3 := sr_addE (wr := w6.drew) (e := e) k1 g1 o1 own1 hbk h2 hln
    exact h3
theorem sr_rowA {w w1 : World} {o : Obj} {B : Nat} {h : ShapeS} {b : Int} {olds : List PairS} {cur : PairS} {vO : Value} {N n : Nat} {X : List Nat} (k : SrI w w1 B h b olds cur vO N X) (hn : olds.length = n) : (w1.alloc o).ownsRow w.heap.size 47 2 vO n (flatP2 olds) := by
  subst hn
  exact r6_row k.row (fun g e => ((Below.refl _ w1).alloc (Nat.le_refl _) o).block g (k.row.lt g e).2)
theorem sr_room {w wr : World} {B : Nat} {h : ShapeS} {b : Int} {olds : List PairS} {cur : PairS} {vO : Value} {N len : Nat} {X : List Nat} (k : SrI w wr B h b olds cur vO N X) (hN : N ≤ len) (hm : len ≤ 1048576) : cur.ns.length ≤ 1099511627776 := by
  have := k.notes
  have h2 : N * 1048576 ≤ 1048576 * 1048576 := Nat.mul_le_mul_right _ (by omega)
  have h3 : 1048576 * 1048576 = 1099511627776 := by rfl
  rw [h3] at h2
  omega
theorem sr_bx {w3 wx : World} {B ps pq : Nat} (h : w3.heap[B]? = some (.cells #[.pointer (some ⟨ps, 0, none⟩), .pointer (some ⟨pq, 0, none⟩)] 47)) (hx : Below w3.heap.size w3 wx) :
    wx.cell? ⟨B, 0, none⟩ = some (.pointer (some ⟨ps, 0, none⟩)) ∧ wx.cell? ⟨B, 1, none⟩ = some (.pointer (some ⟨pq, 0, none⟩)) ∧ wx.frozen? ⟨B, 0, none⟩ = false ∧ wx.frozen? ⟨B, 1, none⟩ = false := by
  have h1 := (hx.block B (Array.getElem?_eq_some_iff.1 h).1).trans h
  refine ⟨?_, ?_, ?_, ?_⟩
  · simp [World.cell?, h1]
  · simp [World.cell?, h1]
  · simp only [World.frozen?, h1]; simp
  · simp only [World.frozen?, h1]; simp
def SrFk (w wx : World) (B0 D : Nat) (h : ShapeS) (b : Int) (olds : List PairS) (vO : Value) (N : Nat) (at_ : Int) (key : ByteArray) (a' : Option Addr) (l c : Nat) : Prop :=
  ∃ cur', SrI w wx B0 h b olds cur' vO N [D] ∧ wx.heap[D]? = some (.cells #[.int .i64 1, .int .i64 at_, .string key, .slice a' l c] 33)
theorem sr_forkE {w w1 w3 w4 w5 : World} {o : Obj} {B D : Nat} {h : ShapeS} {b : Int} {olds : List PairS} {cur : PairS} {vO v3 : Value} {N no n3 : Nat} (k : SrI w w1 B h b olds cur vO N [D]) (hno : olds.length = no) (hfew : no < 4) (hn3 : no + 1 = n3) (hg : (w1.alloc o).grownBy w3 vO.ownBlock)
    (hown : w3.ownsRow w.heap.size 47 2 v3 n3 (flatP2 olds ++ cur.vals)) (hk3 : v3.ownBlock = vO.ownBlock ∨ v3.ownBlock = some (w1.alloc o).heap.size)
    {at_ : Int} {key : ByteArray} {a' : Option Addr} {l c : Nat} (hd : w1.heap[D]? = some (.cells #[.int .i64 1, .int .i64 at_, .string key, .slice a' l c] 33))
    {s' q' : Nat} {v' v6' : Value} {bs' : List BkS} (h4 : Below w3.heap.size w3 w4) (k4 : SkAt w4 s' h cur.last v' bs') (hm : bs'.map BkS.a = cur.bs.map BkS.a) (o4 : ∀ i, SkOwn s' v' bs' i → w3.heap.size ≤ i)
    (h5 : Below w4.heap.size w4 w5) (k5 : R6At w5 q' h cur.last v6' cur.ns) (o5 : ∀ i, R6Own q' v6' i → w4.heap.size ≤ i) :
    SrFk w ((w5.setCell ⟨B, 0, none⟩ (.pointer (some ⟨s', 0, none⟩))).setCell ⟨B, 1, none⟩ (.pointer (some ⟨q', 0, none⟩))) B D h b (olds ++ [cur]) v3 N at_ key a' l c := by
  subst hno
  subst hn3
  obtain ⟨h1, h2⟩ := sr_fork k hfew hg hown hk3 h4 k4 hm o4 h5 k5 o5
  exact ⟨_, h1, (h2 D (by simp)).trans hd⟩
theorem sr_len {olds : List PairS} {c : PairS} {no n3 : Nat} (h : olds.length = no) (h3 : no + 1 = n3) : (olds ++ [c]).length = n3 := by simp; omega
theorem sr_old {w wr : World} {B : Nat} {h : ShapeS} {b : Int} {olds : List PairS} {cur P : PairS} {aO : Option Addr} {N no cO j : Nat} {X : List Nat} (k : SrI w wr B h b olds cur (.slice aO no cO) N X) (hno : olds.length = no) (hP : olds[j]? = some P) :
    ∃ g, aO = some ⟨g, 0, none⟩ ∧ wr.cell? ⟨g, j * 2, none⟩ = some (.pointer (some ⟨P.s, 0, none⟩)) ∧ wr.cell? ⟨g, j * 2 + 1, none⟩ = some (.pointer (some ⟨P.q, 0, none⟩)) ∧ wr.cell? ⟨P.q, 6, none⟩ = some (.int .i64 P.last) ∧ PairAt wr h b P := by
  have hjl := (List.getElem?_eq_some_iff.1 hP).1
  have hr := k.row
  have hp := k.pairs.each P (List.mem_append.2 (Or.inl (List.mem_of_getElem? hP)))
  have hl := flatP2_len olds
  rcases hr.2 with ⟨_, hz⟩ | ⟨g, cp, cur, hh, _, hgg, _⟩
  · omega
  · injection hh with h1 h2 h3
    subst h1
    subst h3
    rw [h2] at hr
    exact ⟨g, rfl, (hr.cellAt (j * 2) (by omega)).trans (flatP2_get hP 0 (by omega)), (hr.cellAt (j * 2 + 1) (by omega)).trans (flatP2_get hP 1 (by omega)), hp.r6.cells.2.2.2.2.2.2, hp⟩
theorem sr_oldB {wr wx : World} {g j s q : Nat} {l : Int} (h0 : wr.cell? ⟨g, j * 2, none⟩ = some (.pointer (some ⟨s, 0, none⟩))) (h1 : wr.cell? ⟨g, j * 2 + 1, none⟩ = some (.pointer (some ⟨q, 0, none⟩))) (h2 : wr.cell? ⟨q, 6, none⟩ = some (.int .i64 l)) (hx : Below wr.heap.size wr wx) :
    wx.cell? ⟨g, j * 2, none⟩ = some (.pointer (some ⟨s, 0, none⟩)) ∧ wx.cell? ⟨g, j * 2 + 1, none⟩ = some (.pointer (some ⟨q, 0, none⟩)) ∧ wx.cell? ⟨q, 6, none⟩ = some (.int .i64 l) :=
  ⟨(hx.cell (World.block_lt_of_cell? _ _ h0)).trans h0, (hx.cell (World.block_lt_of_cell? _ _ h1)).trans h1, (hx.cell (World.block_lt_of_cell? _ _ h2)).trans h2⟩
end Go.Proofs.Ytogdnacambjhpaa
