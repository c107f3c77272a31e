/- rules.Of: the numbers of a resource's rules of a kind; the closure that notes them. -/
import Derived.Test.YtpgjaaekpaeajaaRulesIn
import Derived.Test.YtpgjaaekpaeajaaInts
import Derived.Test.YtpgjaaekpaeajaaOwn
import Derived.Laws.Rows
namespace Go.Proofs.Ytpgjaaekpaeajaa
open Go.RowKit
set_option linter.unusedVariables false
set_option linter.unusedSimpArgs false

/-- The numbers below n that are p. -/
def ofFrom (p : Nat → Bool) (n : Nat) : List Int := ((List.range n).filter p).map fun (i : Nat) => (i : Int)
theorem ofFrom_step (p : Nat → Bool) (k : Nat) : ofFrom p (k + 1) = if p k then ofFrom p k ++ [(k : Int)] else ofFrom p k := by
  unfold ofFrom
  rw [List.range_succ, List.filter_append, List.map_append]
  cases h : p k <;> simp [h]
theorem ofFrom_len (p : Nat → Bool) (k : Nat) : (ofFrom p k).length ≤ k := by
  unfold ofFrom
  rw [List.length_map]
  have := List.length_filter_le p (List.range k)
  simpa using this
theorem ofFrom_congr {p q : Nat → Bool} {n : Nat} (h : ∀ i, i < n → p i = q i) : ofFrom p n = ofFrom q n := by
  unfold ofFrom
  rw [List.filter_congr fun i hi => h i (List.mem_range.1 hi)]

theorem info_intO : (Try.prog.info? 3).map (fun i => (i.zero, i.size, i.bytes)) = some (some (.int .i64 0), 1, 8) := by kernel_rfl
theorem info_partsO {P : Program} {t : TypeId} {z : Value} {sz by_ : Nat} (h : (P.info? t).map (fun i => (i.zero, i.size, i.bytes)) = some (some z, sz, by_)) : ∃ i, P.info? t = some i ∧ i.zero = some z ∧ i.size = sz ∧ i.bytes = by_ := by
  cases hi : P.info? t with
  | none => rw [hi] at h; cases h
  | some i =>
    rw [hi] at h
    simp only [Option.map_some, Option.some.injEq, Prod.mk.injEq] at h
    exact ⟨i, rfl, h.1, h.2.1, h.2.2⟩

/-- What lies in memory while the closure notes. -/
structure OfI (w0 : World) (base bl br : Nat) (res : ByteArray) (ns : List Int) (w : World) : Prop where
  bel : Below w0.heap.size w0 w
  b0 : w0.heap.size ≤ bl
  l0 : bl < base
  bs : base ≤ w.heap.size
  cr : w.cell? ⟨br, 0, none⟩ = some (.string res)
  ne : bl ≠ br
  l1 : br < base
  row : ∃ v, w.heap[bl]? = some (.cells #[v] 48) ∧ w.ownsRow base 3 1 v ns.length (ns.map (Value.int .i64))
theorem OfI.below {w0 w w' : World} {base bl br : Nat} {res : ByteArray} {ns : List Int} (h : OfI w0 base bl br res ns w) (hb : Below w.heap.size w w') : OfI w0 base bl br res ns w' := by
  obtain ⟨v, h1, h2⟩ := h.row
  have hl := h.l0
  have hl1 := h.l1
  have hs := h.bs
  refine ⟨h.bel.trans (hb.mono h.bel.size), h.b0, h.l0, Nat.le_trans h.bs hb.size, (hb.cell (p := ⟨br, 0, none⟩) (by show br < _; omega)).trans h.cr, h.ne, h.l1, v, (hb.block bl (by omega)).trans h1, ?_⟩
  exact h2.kept (row := none) ⟨hb.os, hb.tape, hb.output, hb.size, fun k hk _ => hb.block k hk⟩ (by cases v.ownBlock <;> simp)
theorem OfI.alloc {w0 w : World} {base bl br : Nat} {res : ByteArray} {ns : List Int} (h : OfI w0 base bl br res ns w) (o : Obj) : OfI w0 base bl br res ns (w.alloc o) := h.below ((Below.refl _ _).alloc (Nat.le_refl _) o)
theorem OfI.cellOld {w0 w : World} {base bl br : Nat} {res : ByteArray} {ns : List Int} (h : OfI w0 base bl br res ns w) {p : Addr} (hp : p.block < w0.heap.size) : w.cell? p = w0.cell? p := h.bel.cell hp
theorem box_one {w : World} {g : Nat} {v : Value} {t : TypeId} (h : w.heap[g]? = some (.cells #[v] t)) : w.cell? ⟨g, 0, none⟩ = some v := by simp [World.cell?, h]
theorem box_oneF {w : World} {g : Nat} {v : Value} {t : TypeId} (h : w.heap[g]? = some (.cells #[v] t)) : w.frozen? ⟨g, 0, none⟩ = false := by simp [World.frozen?, h]
theorem own_sliceO {w : World} {base n size : Nat} {e : TypeId} {v : Value} {xs : List Value} (h : w.ownsRow base e size v n xs) : ∃ a cap, v = .slice a n cap := by
  rcases h.2 with ⟨rfl, rfl⟩ | ⟨g, cap, cur, rfl, _⟩
  · exact ⟨none, 0, rfl⟩
  · exact ⟨_, cap, rfl⟩
theorem one_cellO (w : World) (u : Value) (t : TypeId) : ∀ j x, ([u] : List Value)[j]? = some x → (w.alloc (.cells #[u] t)).cell? ((⟨w.heap.size, 0, none⟩ : Addr).add j) = some x := by
  intro j x hx
  match j with
  | 0 =>
    obtain rfl : u = x := by simpa using hx
    have : (w.alloc (.cells #[u] t)).heap[w.heap.size]? = some (.cells #[u] t) := by rw [get_allocB, if_pos rfl]
    rw [show ((⟨w.heap.size, 0, none⟩ : Addr).add 0) = ⟨w.heap.size, 0, none⟩ from rfl]
    simp only [World.cell?]
    rw [this]
    rfl
  | j + 1 => simp at hx

set_option maxHeartbeats 3200000 in
set_option maxRecDepth 100000 in
theorem note_any {w0 w : World} {base bl br : Nat} {res : ByteArray} {ns : List Int} (h : OfI w0 base bl br res ns w) (s : ByteArray) (i : Int) (hroom : ns.length + 1 ≤ 17592186044416) :
    Calls Try.prog 32 #[.int .i64 i, .string s, .pointer (some ⟨br, 0, none⟩), .pointer (some ⟨bl, 0, none⟩)] w fun e w' => e = .returned (.tuple #[]) ∧ OfI w0 base bl br res (if s.toList == res.toList then ns ++ [i] else ns) w' := by
  obtain ⟨i0, hi, hz0, hz1, hz2⟩ := info_partsO info_intO
  have HH := Lib.hid h
  obtain ⟨v, h1, h2⟩ := h.row
  have c1 := box_one h1
  have c2 := h.cr
  have HB := Lib.hid h1
  obtain ⟨va, vc, rfl⟩ := own_sliceO h2
  have hbs := h.bs
  have HR := Lib.hid h2
  clear h h1 h2
  cases hs : (s.toList == res.toList)
  · go_enter Try.func32, Try.ntmps32
    go_wp2_with (fail)
    go_end0
    exact ⟨rfl, HH.out⟩
  · go_enter Try.func32, Try.ntmps32
    go_wp2_with (at_builtin; refine wpList_append_own _ rfl (.tmp 9) (.tmp 11) 48 rfl base 3 i0 (.int .i64 0) 1 8 Try.underlying48 hi hz0 hz1 hz2 rfl (by decide) (.slice va ns.length vc) ns.length (ns.map (Value.int .i64)) rfl (HR.out.alloc _) ⟨w.heap.size, 0, none⟩ 1 1 [.int .i64 i] rfl rfl (one_cellO _ _ _) (by simp [Value.oneCell']) (by unfold maxLen; omega) (by omega) (by simp; omega) ?_; intro v3 w3 hown3 hg3 _; obtain ⟨va3, vc3, rfl⟩ := own_sliceO hown3; have hl0 := HH.out.l0; have hb3 : w3.heap[bl]? = some (.cells #[.slice va ns.length vc] 48) := (hg3.block bl (by simp; omega) (fun e => by have := HR.out.lt bl e.symm; omega)).trans ((Below.heap_alloc _ _ _ (by omega)).trans HB.out); have c3 := box_one hb3; have c4 := box_oneF hb3)
    go_wp2_with (fail)
    go_end0
    refine ⟨rfl, ?_⟩
    have hgb : Below w0.heap.size w0 w3 := ((HH.out.bel.alloc HH.out.bel.size _).grown hg3 (by have := HH.out.bel.size; simp; omega) (fun k e => by have := HR.out.lt k e; have := HH.out.b0; omega))
    have hsz3 := hg3.size
    simp at hsz3
    have hbr : w3.cell? ⟨br, 0, none⟩ = some (.string res) := by
      refine (World.cell?_of_block (a := ⟨br, 0, none⟩) (w := w) ?_).trans HH.out.cr
      have := HH.out.l1
      exact (hg3.block br (by simp; omega) (fun e => by have := HR.out.lt br e.symm; omega)).trans (Below.heap_alloc _ _ _ (by omega))
    refine ⟨hgb.setCell HH.out.b0 _, HH.out.b0, hl0, by simp [World.setCell]; omega, ?_, HH.out.ne, HH.out.l1, _, heap_setCell_same w3 bl 0 _ _ _ hb3, ?_⟩
    · refine (World.cell?_of_block (a := ⟨br, 0, none⟩) (w := w3) ?_).trans hbr
      exact heap_setCell_other _ _ _ _ (fun e => HH.out.ne e.symm)
    · have : (ns ++ [i]).map (Value.int .i64) = ns.map (Value.int .i64) ++ [.int .i64 i] := by simp
      rw [this, List.length_append]
      refine ⟨hown3.1, ?_⟩
      rcases hown3.2 with h | ⟨g, cap, cur, e1, e2, e3, e4⟩
      · exact Or.inl h
      · exact Or.inr ⟨g, cap, cur, e1, e2, (heap_setCell_other _ _ _ _ (by dsimp only; omega)).trans e3, e4⟩
end Go.Proofs.Ytpgjaaekpaeajaa
