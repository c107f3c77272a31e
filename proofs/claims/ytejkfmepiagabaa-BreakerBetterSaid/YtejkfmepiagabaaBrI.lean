/- BreakerBetter: the plain law, and two breakers side by side. -/
import Derived.Test.YtejkfmepiagabaaBrG
namespace Go.Proofs.Ytejkfmepiagabaa
open Go.RowKit
set_option linter.unusedVariables false
set_option linter.unusedSimpArgs false

/-- The second row has the first one's ends, some of them made well. -/
inductive AlikeN : List NoteW → List NoteW → Prop
  | nil : AlikeN [] []
  | cons {x y : NoteW} {l k : List NoteW} : x.at_ = y.at_ → x.c.d = y.c.d → y.c.e ≤ x.c.e → x.c.e ≤ x.c.d → AlikeN l k → AlikeN (x :: l) (y :: k)
theorem AlikeN.snoc {x y : NoteW} (h1 : x.at_ = y.at_) (h2 : x.c.d = y.c.d) (h3 : y.c.e ≤ x.c.e) (h4 : x.c.e ≤ x.c.d) {l k : List NoteW} (h : AlikeN l k) : AlikeN (l ++ [x]) (k ++ [y]) := by
  induction h with
  | nil => exact .cons h1 h2 h3 h4 .nil
  | cons a b c d _ ih => exact .cons a b c d ih
theorem sumW_d (p : NoteW → Bool) (x : NoteW) (l : List NoteW) : (sumW p (x :: l)).d = (if p x then x.c.d else 0) + (sumW p l).d := by
  show (if p x then rawOf x.c else .zero).d + (sumW p l).d = _
  split <;> rfl
theorem sumW_e (p : NoteW → Bool) (x : NoteW) (l : List NoteW) : (sumW p (x :: l)).e = (if p x then x.c.e else 0) + (sumW p l).e := by
  show (if p x then rawOf x.c else .zero).e + (sumW p l).e = _
  split <;> rfl
theorem AlikeN.sum {p : NoteW → Bool} (hp : ∀ x y : NoteW, x.at_ = y.at_ → p x = p y) {l k : List NoteW} (h : AlikeN l k) : (sumW p l).d = (sumW p k).d ∧ (sumW p k).e ≤ (sumW p l).e ∧ (sumW p l).e ≤ (sumW p l).d := by
  induction h with
  | nil => exact ⟨rfl, Int.le_refl _, Int.le_refl _⟩
  | cons a b c d _ ih =>
    rename_i x y l k _
    obtain ⟨i1, i2, i3⟩ := ih
    rw [sumW_d, sumW_d, sumW_e, sumW_e, hp x y a]
    split <;> omega
theorem capW_monoI {x y : Int} (h : x ≤ y) : capW x ≤ capW y := by unfold capW; split <;> split <;> omega
theorem AlikeN.win {l k : List NoteW} (h : AlikeN l k) (b B at_ : Int) : (winC b B at_ l).d = (winC b B at_ k).d ∧ (winC b B at_ k).e ≤ (winC b B at_ l).e ∧ (winC b B at_ l).e ≤ (winC b B at_ l).d := by
  obtain ⟨h1, h2, h3⟩ := h.sum (p := fun x => decide (at_ / b - B < x.at_ / b)) (fun x y e => by rw [e])
  refine ⟨?_, capW_monoI h2, capW_monoI h3⟩
  show capW _ = capW _
  rw [h1]
theorem keep_mono {x y : Int} (h : x ≤ y) : keep x ≤ keep y := by
  unfold keep
  repeat (first | omega | split)
theorem over_mono {r : BreakS} {c c' : CntS} (hd : c.d = c'.d) (he : c'.e ≤ c.e) (hed : c.e ≤ c.d) (h : overB r c' = true) : overB r c = true := by
  unfold overB at h ⊢
  rw [hd]
  split
  · rename_i h1; rw [if_pos h1] at h; cases h
  · rename_i h1
    rw [if_neg h1] at h
    split
    · rename_i h2; rw [if_pos h2] at h; have := of_decide_eq_true h; exact decide_eq_true (by omega)
    · rename_i h2
      rw [if_neg h2] at h
      rw [Bool.or_eq_true] at h ⊢
      rcases h with h | h
      · have h3 := of_decide_eq_true h
        have h4 : keep (1000 * c'.e) ≤ keep (1000 * c.e) := keep_mono (by omega)
        exact Or.inl (decide_eq_true (by omega))
      · rw [Bool.and_eq_true] at h ⊢
        have h3 := of_decide_eq_true h.2
        exact Or.inr ⟨h.1, decide_eq_true (by omega)⟩
theorem bad_well {r : BreakS} (h : BreakOk r) : badB r 0 false = false := by
  unfold badB
  split
  · rename_i hg; exact decide_eq_false (by have := (h.s hg).1; omega)
  · rfl
/-- Both are closed, and alike. -/
structure AlikeS (sa sb : BrS) : Prop where
  a1 : sa.st = 1
  b1 : sb.st = 1
  la : sa.la = sb.la
  notes : AlikeN sa.notes sb.notes
theorem alike_err {sa sb : BrS} (h : AlikeS sa sb) (at_ rt rt' : Int) (hr : isT rt = isT rt') : bdoneE sa at_ rt false = bdoneE sb at_ rt' false := by
  unfold bdoneE
  rw [h.la, hr, h.a1, h.b1]
theorem bdone_closed {r : BreakS} {s : BrS} {at_ rt : Int} {f : Bool} (h : bdoneE s at_ rt false = 0) (hs : s.st = 1) : bdoneS r s at_ rt f false = if overB r (winC r.win 1 at_ (s.notes ++ newW at_ [endC (badB r rt f)])) then openS r (addS s at_ (badB r rt f)) at_ else addS s at_ (badB r rt f) := by
  unfold bdoneS
  rw [if_pos h, if_neg (by simp), if_pos hs]
theorem bdone_noI {r : BreakS} {s : BrS} {at_ rt : Int} {f p : Bool} (h : bdoneE s at_ rt p ≠ 0) : bdoneS r s at_ rt f p = s := by unfold bdoneS; rw [if_neg h]
theorem alike_done {r : BreakS} {sa sb : BrS} (h : AlikeS sa sb) (at_ rt rt' : Int) (f f' : Bool) (hr : isT rt = isT rt') (hb : badB r rt' f' = true → badB r rt f = true) :
    (bdoneS r sa at_ rt f false).st = 2 ∨ AlikeS (bdoneS r sa at_ rt f false) (bdoneS r sb at_ rt' f' false) := by
  have he := alike_err h at_ rt rt' hr
  by_cases hE : bdoneE sa at_ rt false = 0
  · rw [bdone_closed hE h.a1, bdone_closed (he.symm.trans hE) h.b1]
    generalize badB r rt f = X at *
    generalize badB r rt' f' = Y at *
    have hn : AlikeN (sa.notes ++ newW at_ [endC X]) (sb.notes ++ newW at_ [endC Y]) := by
      refine AlikeN.snoc (x := ⟨at_, endC X⟩) (y := ⟨at_, endC Y⟩) rfl rfl ?_ ?_ h.notes
      · cases X <;> cases Y <;> simp [endC] at hb ⊢
      · cases X <;> simp [endC]
    obtain ⟨k1, k2, k3⟩ := hn.win r.win 1 at_
    cases hoa : overB r (winC r.win 1 at_ (sa.notes ++ newW at_ [endC X])) with
    | true => rw [if_pos rfl]; exact Or.inl rfl
    | false =>
      have hob : overB r (winC r.win 1 at_ (sb.notes ++ newW at_ [endC Y])) = false := by
        cases hob : overB r (winC r.win 1 at_ (sb.notes ++ newW at_ [endC Y])) with
        | false => rfl
        | true => have := over_mono k1 k2 k3 hob; rw [hoa] at this; cases this
      rw [hob, if_neg (by simp), if_neg (by simp)]
      exact Or.inr ⟨h.a1, h.b1, rfl, hn⟩
  · rw [bdone_noI hE, bdone_noI (fun e => hE (he.trans e))]
    exact Or.inr h
/-- Two breakers of the call's own, and another block. -/
structure Br2 (w wr : World) (qa qb : Nat) (r : BreakS) (sa sb : BrS) (l : List (Nat × Obj)) : Prop where
  ex : ∃ pa ma pb mb, BrAt wr qa pa ma r sa ∧ BrAt wr qb pb mb r sb ∧ (∀ i, BOwn qa pa ma i → w.heap.size ≤ i ∧ ¬ BOwn qb pb mb i) ∧ (∀ i, BOwn qb pb mb i → w.heap.size ≤ i) ∧ ∀ x, x ∈ l → wr.heap[x.1]? = some x.2 ∧ ¬ BOwn qa pa ma x.1 ∧ ¬ BOwn qb pb mb x.1
  bel : Below w.heap.size w wr
theorem Br2.swap {w wr : World} {qa qb : Nat} {r : BreakS} {sa sb : BrS} {l : List (Nat × Obj)} (h : Br2 w wr qa qb r sa sb l) : Br2 w wr qb qa r sb sa l := by
  obtain ⟨pa, ma, pb, mb, h1, h2, h3, h4, h5⟩ := h.ex
  exact ⟨⟨pb, mb, pa, ma, h2, h1, fun i hi => ⟨h4 i hi, fun e => (h3 i e).2 hi⟩, fun i hi => (h3 i hi).1, fun x hx => ⟨(h5 x hx).1, (h5 x hx).2.2, (h5 x hx).2.1⟩⟩, h.bel⟩
theorem Br2.below {w wr w' : World} {qa qb : Nat} {r : BreakS} {sa sb : BrS} {l : List (Nat × Obj)} (h : Br2 w wr qa qb r sa sb l) (hb : Below wr.heap.size wr w') : Br2 w w' qa qb r sa sb l := by
  obtain ⟨pa, ma, pb, mb, h1, h2, h3, h4, h5⟩ := h.ex
  exact ⟨⟨pa, ma, pb, mb, h1.below hb, h2.below hb, h3, h4, fun x hx => ⟨(hb.block x.1 (Array.getElem?_eq_some_iff.1 (h5 x hx).1).1).trans (h5 x hx).1, (h5 x hx).2⟩⟩, h.bel.trans (hb.mono h.bel.size)⟩
theorem Br2.alloc {w wr : World} {qa qb : Nat} {r : BreakS} {sa sb : BrS} {l : List (Nat × Obj)} (h : Br2 w wr qa qb r sa sb l) (O : Obj) : Br2 w (wr.alloc O) qa qb r sa sb ((wr.heap.size, O) :: l) := by
  have hb : Below wr.heap.size wr (wr.alloc O) := (Below.refl _ _).alloc (Nat.le_refl _) _
  have h' := h.below hb
  obtain ⟨pa, ma, pb, mb, h1, h2, h3, h4, h5⟩ := h.ex
  refine ⟨⟨pa, ma, pb, mb, h1.below hb, h2.below hb, h3, h4, fun x hx => ?_⟩, h'.bel⟩
  rcases List.mem_cons.1 hx with rfl | hx
  · exact ⟨(get_allocW wr O wr.heap.size).trans (if_pos rfl), fun e => by have := h1.lt e; omega, fun e => by have := h2.lt e; omega⟩
  · exact ⟨(hb.block x.1 (Array.getElem?_eq_some_iff.1 (h5 x hx).1).1).trans (h5 x hx).1, (h5 x hx).2⟩
theorem Br2.nil {w wr : World} {qa qb : Nat} {r : BreakS} {sa sb : BrS} {l : List (Nat × Obj)} (h : Br2 w wr qa qb r sa sb l) : Br2 w wr qa qb r sa sb [] := by
  obtain ⟨pa, ma, pb, mb, h1, h2, h3, h4, h5⟩ := h.ex
  exact ⟨⟨pa, ma, pb, mb, h1, h2, h3, h4, fun x hx => by cases hx⟩, h.bel⟩
theorem br2_done {w wr : World} {qa qb : Nat} {r : BreakS} {sa sb : BrS} {l : List (Nat × Obj)} (h : Br2 w wr qa qb r sa sb l) (at_ rt : Int) (failed probe : Bool) :
    Calls Try.prog 25 #[.pointer (some ⟨qa, 0, none⟩), .int .i64 at_, .int .i64 rt, .bool failed, .bool probe] wr fun e w' => e = .returned (.int .i64 (bdoneE sa at_ rt probe)) ∧ Br2 w w' qa qb r (bdoneS r sa at_ rt failed probe) sb l := by
  obtain ⟨pa, ma, pb, mb, h1, h2, h3, h4, h5⟩ := h.ex
  refine (bdone_any h1 at_ rt failed probe).mono fun e w' hd => ⟨hd.e, ?_⟩
  obtain ⟨p', m', k1, k2, k3⟩ := hd.at'
  have hs := h.bel.size
  have hown : ∀ i, BOwn qa p' m' i → BOwn qa pa ma i ∨ wr.heap.size ≤ i := fun i hi => by
    rcases k3 with ⟨rfl, rfl⟩ | ⟨x, y⟩
    · exact Or.inl hi
    · rcases hi with e | e | e
      · exact Or.inl (Or.inl e)
      · right; omega
      · right; omega
  refine ⟨⟨p', m', pb, mb, k1, h2.kept (fun i hi => k2.block i (h2.lt hi) (fun e => (h3 i e).2 hi)), fun i hi => ?_, h4, fun x hx => ⟨?_, fun e => ?_, (h5 x hx).2.2⟩⟩, h.bel.trans (k2.below hs (fun i hi e => by have := (h3 i e).1; omega))⟩
  · rcases hown i hi with e | e
    · exact h3 i e
    · exact ⟨by omega, fun e' => by have := h2.lt e'; omega⟩
  · exact (k2.block x.1 (Array.getElem?_eq_some_iff.1 (h5 x hx).1).1 (h5 x hx).2.1).trans (h5 x hx).1
  · rcases hown _ e with e | e
    · exact (h5 x hx).2.1 e
    · have := (Array.getElem?_eq_some_iff.1 (h5 x hx).1).1; omega
theorem br2_state {w wr : World} {qa qb : Nat} {r : BreakS} {sa sb : BrS} {l : List (Nat × Obj)} (h : Br2 w wr qa qb r sa sb l) : Calls Try.prog 26 #[.pointer (some ⟨qa, 0, none⟩)] wr fun e w' => e = .returned (.int .u8 sa.st) ∧ w' = wr := by
  obtain ⟨pa, ma, pb, mb, h1, h2⟩ := h.ex
  exact bstate_any h1
/-- A box's store keeps the others. -/
theorem Br2.box {w wr : World} {qa qb b : Nat} {r : BreakS} {sa sb : BrS} {cells : Array Value} {ty : TypeId} (h : Br2 w wr qa qb r sa sb [(b, .cells cells ty)]) (hb : w.heap.size ≤ b) (k : Nat) (v : Value) : Br2 w (wr.setCell ⟨b, k, none⟩ v) qa qb r sa sb [(b, .cells (cells.setIfInBounds k v) ty)] := by
  obtain ⟨pa, ma, pb, mb, h1, h2, h3, h4, h5⟩ := h.ex
  obtain ⟨x1, x2, x3⟩ := h5 _ (List.mem_cons_self ..)
  exact ⟨⟨pa, ma, pb, mb, h1.kept (fun i hi => heap_setCell_other wr ⟨b, k, none⟩ i v (fun e => x2 (by have e' : i = b := e; subst e'; exact hi))), h2.kept (fun i hi => heap_setCell_other wr ⟨b, k, none⟩ i v (fun e => x3 (by have e' : i = b := e; subst e'; exact hi))), h3, h4, fun x hx => by
    obtain rfl := List.mem_singleton.1 hx
    exact ⟨heap_setCell_same wr b k _ _ v x1, x2, x3⟩⟩, h.bel.setCell hb v⟩
end Go.Proofs.Ytejkfmepiagabaa
