/- Texts of one chain, one behind the other: Bits, NumBy, NumOps, BrB, R14A. -/
import Derived.ProofKit
import Derived.Test.YtlipbkpbflgamaaShelf
import Derived.Test.YtlipbkpbflgamaaGNumDiv
import Derived.Test.YtlipbkpbflgamaaGBrA
import Derived.Test.YtlipbkpbflgamaaGInts
import Derived.Test.YtlipbkpbflgamaaGRowsOf

/- math/bits.Add64 and Sub64 over Int, at this program's numbers. -/
namespace Go.Proofs.Ytlipbkpbflgamaa
open Go.RowKit Go.Shelf
end Go.Proofs.Ytlipbkpbflgamaa

/- The layer num: a number of 128 bits by a number, rounded: 'by'. -/
namespace Go.Proofs.Ytlipbkpbflgamaa
open Go.RowKit
set_option linter.unusedVariables false
set_option linter.unusedSimpArgs false

/-- A quotient rounded, in sizes: c's own size d, the quotient and what is left of the sizes. -/
theorem rnd_pos (M d : Int) (hM : 0 ≤ M) (hd : 0 < d) (b up : Bool) :
    rnd (sgn b M) d up = sgn b (M / d + if M % d ≠ 0 ∧ b ≠ up then 1 else 0) := by
  have m0 := Int.mul_ediv_add_emod M d
  have m1 := Int.emod_nonneg M (show d ≠ 0 by omega)
  have m2 := Int.emod_lt_of_pos M hd
  have hneg : (-M) / d = -(M / d) - if M % d ≠ 0 then 1 else 0 := by
    by_cases h : M % d = 0
    · simp only [h, ne_eq, not_true_eq_false, if_false]
      rw [Int.neg_ediv_of_dvd (Int.dvd_of_emod_eq_zero h)]; omega
    · rw [if_pos h, Int.neg_ediv, if_neg (fun hh => h (Int.emod_eq_zero_of_dvd hh)), Int.sign_eq_one_of_pos hd]
  have f1 : M.fdiv d = M / d := Int.fdiv_eq_ediv_of_nonneg _ (by omega)
  have f2 : (-M).fdiv d = (-M) / d := Int.fdiv_eq_ediv_of_nonneg _ (by omega)
  cases b <;> cases up <;> simp only [rnd, sgn, f1, f2, hneg, Int.neg_neg] <;> by_cases h : M % d = 0 <;> simp [h] <;> omega

theorem rnd_by (M c : Int) (hM : 0 ≤ M) (hc : c ≠ 0) (b up : Bool) :
    rnd (sgn b M) c up = sgn (b != decide (c < 0)) (M / (c.natAbs : Int) + if M % (c.natAbs : Int) ≠ 0 ∧ (b != decide (c < 0)) ≠ up then 1 else 0) := by
  by_cases h : c < 0
  · have e : rnd (sgn b M) c up = rnd (sgn (!b) M) (-c) up := by
      have k1 : (sgn b M) = -(sgn (!b) M) := by cases b <;> simp [sgn]
      have k2 : c = -(-c) := by omega
      unfold rnd
      rw [k1, Int.neg_neg]
      conv => lhs; rw [k2]
      rw [Int.neg_fdiv_neg]
      have : (sgn (!b) M).fdiv (- -c) = (-(sgn (!b) M)).fdiv (-c) := by rw [← Int.neg_fdiv_neg, Int.neg_neg]
      rw [this]
    have hn : (c.natAbs : Int) = -c := by omega
    rw [e, rnd_pos M (-c) hM (by omega), hn]
    simp [h]
  · have hn : (c.natAbs : Int) = c := by omega
    rw [rnd_pos M c hM (by omega), hn]
    simp [h]

/-- The words of a quotient. -/
theorem quo_words (hi lo d : Int) (h0 : 0 ≤ hi) (l0 : 0 ≤ lo) (hd : 0 < d) :
    (hi * 18446744073709551616 + lo) / d = hi / d * 18446744073709551616 + (hi % d * 18446744073709551616 + lo) / d ∧ (hi * 18446744073709551616 + lo) % d = (hi % d * 18446744073709551616 + lo) % d := by
  have m0 := Int.mul_ediv_add_emod hi d
  have e : hi * 18446744073709551616 + lo = (hi % d * 18446744073709551616 + lo) + d * (hi / d * 18446744073709551616) := by
    have : d * (hi / d * 18446744073709551616) = d * (hi / d) * 18446744073709551616 := by rw [Int.mul_assoc]
    rw [this]; omega
  constructor
  · rw [e, Int.add_mul_ediv_left _ _ (by omega)]; omega
  · rw [e, Int.add_mul_emod_self_left]

theorem by_up {q up : Bool} {S G Q R : Int} (t : (!(!q) == up) = true) (s : S ≠ 0) (r : R = sgn (!q) (G * 18446744073709551616 + Q + if S ≠ 0 ∧ (!q) ≠ up then 1 else 0)) : R = sgn (!q) (G * 18446744073709551616 + Q + 1) := by
  subst r; cases q <;> cases up <;> simp_all
theorem by_down {q up : Bool} {S G Q R : Int} (t : (!(!q) == up) = false) (r : R = sgn (!q) (G * 18446744073709551616 + Q + if S ≠ 0 ∧ (!q) ≠ up then 1 else 0)) : R = sgn (!q) (G * 18446744073709551616 + Q) := by
  subst r; cases q <;> cases up <;> simp_all
theorem by_even {q up : Bool} {S G Q R : Int} (s : S = 0) (r : R = sgn (!q) (G * 18446744073709551616 + Q + if S ≠ 0 ∧ (!q) ≠ up then 1 else 0)) : R = sgn (!q) (G * 18446744073709551616 + Q) := by
  subst r; simp [s]

end Go.Proofs.Ytlipbkpbflgamaa

/- The layer num: MulDiv, Mul, Div, Share, Times: what each call returns; nothing that was there turns. -/
namespace Go.Proofs.Ytlipbkpbflgamaa
open Go.RowKit
set_option linter.unusedVariables false
set_option linter.unusedSimpArgs false

/-- What MulDiv answers. -/
def mdN (a b c : Int) (up : Bool) : Int := if c = 0 then 0 else fitN (rnd (a * b) c up)
def mdE (a b c : Int) (up : Bool) : Int := if c = 0 then 9 else fitE (rnd (a * b) c up)
theorem fitN_of (v : Int) : (if fitB v then fitN v else 0) = fitN v := by unfold fitN; split <;> rfl
theorem fitE_of (v : Int) : (if fitB v then 0 else 8) = fitE v := rfl

/-- What Share answers. -/
def shN (a b : Int) : Int := if a < 0 ∨ b < a then 0 else if b = 0 then 0 else mdN 1000 a b false
def shE (a b : Int) : Int := if a < 0 ∨ b < a then 2 else if b = 0 then 0 else mdE 1000 a b false

set_option maxHeartbeats 400000 in
theorem times_any (a b : Int) (w : World) (a0 : -9223372036854775808 ≤ a) (a1 : a ≤ 9223372036854775807) (b0 : -9223372036854775808 ≤ b) (b1 : b ≤ 9223372036854775807) :
    Calls Try.prog 60 #[.int .i64 a, .int .i64 b] w fun e w' => e = .returned (.int .i64 (keep (a * b))) ∧ Below w.heap.size w w' := by
  obtain ⟨v, hv0⟩ : ∃ v : Int, a * b = v := ⟨_, rfl⟩
  have hp := product_any a b
  rw [hv0] at hp
  rw [hv0]
  have Hp := Lib.hid hp
  clear hp hv0
  cases hf : fitB v with
  | true =>
    have e1 := Lib.hid (keep_fit hf)
    have e2 := Lib.hid (fitN_yes hf)
    have e3 := Lib.hid hf
    clear hf
    go_enter Try.func60, Try.ntmps60
    go_wp2_with (fail)
    refine (Hp.out _ a0 a1 b0 b1).mono ?_
    rintro e w1 ⟨hi, lo, bb, rfl, h0, h1, l0, l1, hv, hs, hb1⟩
    have Hv := Lib.hid hv
    have Hs := Lib.hid hs
    clear hv hs
    have hz := hb1.size
    go_wp2_with (fail)
    refine (narrow_any hi lo bb _ h0 h1 l0 l1).mono ?_
    rintro e w2 ⟨rfl, hb2⟩
    rw [Hv.out, e2.out, e3.out]
    go_wp2_with (fail)
    go_ret
    exact ⟨by rw [e1.out]; rfl, Below.trans (by repeat (first | exact hb1 | exact Below.refl _ _ | apply Below.alloc | apply Below.setCell | simp | omega)) (hb2.mono (by simp; omega))⟩
  | false =>
    have e2 := Lib.hid (fitN_no hf)
    have e3 := Lib.hid hf
    have e1 : Hid (keep v = edgeV (decide (v < 0))) := by
      by_cases hn : v < 0
      · simp only [edgeV, hn, decide_true, if_true]; exact keep_below hf hn
      · simp only [edgeV, hn, decide_false]; exact keep_above hf (by omega)
    clear hf
    go_enter Try.func60, Try.ntmps60
    go_wp2_with (fail)
    refine (Hp.out _ a0 a1 b0 b1).mono ?_
    rintro e w1 ⟨hi, lo, bb, rfl, h0, h1, l0, l1, hv, hs, hb1⟩
    have Hv := Lib.hid hv
    have Hs := Lib.hid hs
    clear hv hs
    have hz := hb1.size
    go_wp2_with (fail)
    refine (narrow_any hi lo bb _ h0 h1 l0 l1).mono ?_
    rintro e w2 ⟨rfl, hb2⟩
    rw [Hv.out, e2.out, e3.out]
    obtain ⟨hc, hf⟩ := bcell hb2
    go_wp2_with (fail)
    refine (edge_any bb _).mono ?_
    rintro e w3 ⟨rfl, rfl⟩
    go_wp2_with (fail)
    go_ret
    exact ⟨by rw [e1.out, ← Hs.out]; rfl, Below.trans (by repeat (first | exact hb1 | exact Below.refl _ _ | apply Below.alloc | apply Below.setCell | simp | omega)) (hb2.mono (by simp; omega))⟩
end Go.Proofs.Ytlipbkpbflgamaa

/- breaker: one in memory; what looks at it, opens it, clears its window. -/
namespace Go.Proofs.Ytlipbkpbflgamaa
open Go.RowKit
set_option linter.unusedVariables false
set_option linter.unusedSimpArgs false

/-- How a breaker stands. -/
structure BrS where
  st : Int
  un : Int
  tr : Int
  la : Int
  wl : Int
  notes : List NoteW
def brC (r : BreakS) (p : Nat) (s : BrS) : Array Value := #[.string r.res, .int .u8 r.gr, .int .i64 r.cnt, .int .i64 r.slow, .int .i64 r.least, .int .i64 r.win, .int .i64 r.rec_, .pointer (some ⟨p, 0, none⟩), .int .u8 s.st, .int .i64 s.un, .int .i64 s.tr, .int .i64 s.la]
def brO (r : BreakS) (p : Nat) (s : BrS) : Obj := .cells (brC r p s) 60
/-- Its block, its window's, the window's map's. -/
structure BrAt (w : World) (q p m : Nat) (r : BreakS) (s : BrS) : Prop where
  head : w.heap[q]? = some (brO r p s)
  win : WinN w p m r.win 1 s.wl s.notes
  qp : q ≠ p
  qm : q ≠ m
  wl : s.wl ≤ s.la
  la0 : 0 ≤ s.la
  la1 : s.la ≤ 1152921504606846976
  st : s.st = 1 ∨ s.st = 2 ∨ s.st = 3
  ok : BreakOk r
def BOwn (q p m : Nat) (i : Nat) : Prop := i = q ∨ i = p ∨ i = m
theorem BrAt.lt {w : World} {q p m : Nat} {r : BreakS} {s : BrS} (h : BrAt w q p m r s) {i : Nat} (hi : BOwn q p m i) : i < w.heap.size := by
  have h1 := (Array.getElem?_eq_some_iff.1 h.head).1
  have h2 := h.win.lt
  rcases hi with rfl | rfl | rfl <;> omega
theorem BrAt.kept {w w' : World} {q p m : Nat} {r : BreakS} {s : BrS} (h : BrAt w q p m r s) (hk : ∀ i, BOwn q p m i → w'.heap[i]? = w.heap[i]?) : BrAt w' q p m r s :=
  ⟨(hk q (Or.inl rfl)).trans h.head, h.win.kept (hk p (Or.inr (Or.inl rfl))) (hk m (Or.inr (Or.inr rfl))), h.qp, h.qm, h.wl, h.la0, h.la1, h.st, h.ok⟩
theorem BrAt.below {w w' : World} {q p m : Nat} {r : BreakS} {s : BrS} (h : BrAt w q p m r s) (hb : Below w.heap.size w w') : BrAt w' q p m r s := h.kept (fun i hi => hb.block i (h.lt hi))
structure BrCells (w : World) (q p : Nat) (r : BreakS) (s : BrS) : Prop where
  c1 : w.cell? ⟨q, 1, none⟩ = some (.int .u8 r.gr)
  c2 : w.cell? ⟨q, 2, none⟩ = some (.int .i64 r.cnt)
  c3 : w.cell? ⟨q, 3, none⟩ = some (.int .i64 r.slow)
  c4 : w.cell? ⟨q, 4, none⟩ = some (.int .i64 r.least)
  c5 : w.cell? ⟨q, 5, none⟩ = some (.int .i64 r.win)
  c6 : w.cell? ⟨q, 6, none⟩ = some (.int .i64 r.rec_)
  c7 : w.cell? ⟨q, 7, none⟩ = some (.pointer (some ⟨p, 0, none⟩))
  c8 : w.cell? ⟨q, 8, none⟩ = some (.int .u8 s.st)
  c9 : w.cell? ⟨q, 9, none⟩ = some (.int .i64 s.un)
  c10 : w.cell? ⟨q, 10, none⟩ = some (.int .i64 s.tr)
  c11 : w.cell? ⟨q, 11, none⟩ = some (.int .i64 s.la)
theorem br_cells {w : World} {q p : Nat} {r : BreakS} {s : BrS} (h : w.heap[q]? = some (brO r p s)) : BrCells w q p r s := by
  constructor <;> (simp only [World.cell?, h]; rfl)
theorem BrAt.cells {w : World} {q p m : Nat} {r : BreakS} {s : BrS} (h : BrAt w q p m r s) : BrCells w q p r s := br_cells h.head
/-- One of its numbers is set. -/
theorem BrAt.set {w : World} {q p m : Nat} {r : BreakS} {s s' : BrS} (h : BrAt w q p m r s) (k : Nat) (v : Value) (hc : (brC r p s).setIfInBounds k v = brC r p s') (hw : s'.wl = s.wl) (hn : s'.notes = s.notes) (h1 : s'.wl ≤ s'.la) (h2 : 0 ≤ s'.la) (h3 : s'.la ≤ 1152921504606846976) (h4 : s'.st = 1 ∨ s'.st = 2 ∨ s'.st = 3) : BrAt (w.setCell ⟨q, k, none⟩ v) q p m r s' := by
  refine ⟨?_, ?_, h.qp, h.qm, h1, h2, h3, h4, h.ok⟩
  · rw [heap_setCell_same w q k _ _ v h.head, hc]; rfl
  · rw [hw, hn]
    exact h.win.kept (heap_setCell_other w ⟨q, k, none⟩ p v h.qp.symm) (heap_setCell_other w ⟨q, k, none⟩ m v h.qm.symm)
theorem br_frozen {w : World} {q p m : Nat} {r : BreakS} {s : BrS} (h : BrAt w q p m r s) (k : Nat) : w.frozen? ⟨q, k, none⟩ = false := frozen_of_row w q k _ _ h.head

theorem blook_any {w : World} {q p m : Nat} {r : BreakS} {s : BrS} (h : BrAt w q p m r s) (at_ : Int) :
    Calls Try.prog 25 #[.pointer (some ⟨q, 0, none⟩), .int .i64 at_] w fun e w' => e = .returned (.int .i64 (lookW s.la at_)) ∧ w' = w := by
  have c11 := h.cells.c11
  generalize s.la = L at *
  clear h
  unfold lookW
  by_cases h1 : at_ < 0
  · rw [if_pos (Or.inl h1)]
    go_enter Try.func25, Try.ntmps25
    go_wp2_with (fail)
    go_ret
    exact ⟨rfl, rfl⟩
  · by_cases h2 : 1152921504606846976 < at_
    · rw [if_pos (Or.inr h2)]
      go_enter Try.func25, Try.ntmps25
      go_wp2_with (fail)
      go_ret
      exact ⟨rfl, rfl⟩
    · rw [if_neg (by omega)]
      by_cases h3 : at_ < L
      · rw [if_pos h3]
        go_enter Try.func25, Try.ntmps25
        go_wp2_with (fail)
        go_ret
        exact ⟨rfl, rfl⟩
      · rw [if_neg h3]
        go_enter Try.func25, Try.ntmps25
        go_wp2_with (fail)
        go_ret
        exact ⟨rfl, rfl⟩
def passB (s : BrS) (at_ : Int) : Bool := decide (s.st = 1) || (decide (s.st = 2) && decide (s.un ≤ at_))
theorem bpasses_any {w : World} {q p : Nat} {r : BreakS} {s : BrS} (h : BrCells w q p r s) (at_ : Int) :
    Calls Try.prog 26 #[.pointer (some ⟨q, 0, none⟩), .int .i64 at_] w fun e w' => e = .returned (.bool (passB s at_)) ∧ w' = w := by
  have c8 := h.c8
  have c9 := h.c9
  unfold passB
  generalize s.st = T at *
  generalize s.un = U at *
  clear h
  by_cases h1 : T = 1
  · subst h1
    go_enter Try.func26, Try.ntmps26
    go_wp2_with (fail)
    go_ret
    exact ⟨rfl, rfl⟩
  · have n1 : (T == 1) = false := by simpa using h1
    rw [decide_eq_false h1, Bool.false_or]
    by_cases h2 : T = 2
    · subst h2
      by_cases h3 : U ≤ at_
      · rw [decide_eq_true h3]
        go_enter Try.func26, Try.ntmps26
        go_wp2_with (fail)
        go_ret
        exact ⟨rfl, rfl⟩
      · rw [decide_eq_false h3]
        go_enter Try.func26, Try.ntmps26
        go_wp2_with (fail)
        go_ret
        exact ⟨rfl, rfl⟩
    · have n2 : (T == 2) = false := by simpa using h2
      rw [decide_eq_false h2, Bool.false_and]
      go_enter Try.func26, Try.ntmps26
      go_wp2_with (fail)
      go_ret
      exact ⟨rfl, rfl⟩
def badB (r : BreakS) (rt : Int) (failed : Bool) : Bool := if r.gr = 0 then decide (r.slow < rt) else failed
theorem bbad_any {w : World} {q p : Nat} {r : BreakS} {s : BrS} (h : BrCells w q p r s) (rt : Int) (failed : Bool) :
    Calls Try.prog 29 #[.pointer (some ⟨q, 0, none⟩), .int .i64 rt, .bool failed] w fun e w' => e = .returned (.bool (badB r rt failed)) ∧ w' = w := by
  have c1 := h.c1
  have c3 := h.c3
  unfold badB
  generalize r.gr = G at *
  generalize r.slow = S at *
  clear h
  by_cases h1 : G = 0
  · subst h1
    rw [if_pos rfl]
    by_cases h2 : S < rt
    · rw [decide_eq_true h2]
      go_enter Try.func29, Try.ntmps29
      go_wp2_with (fail)
      go_ret
      exact ⟨rfl, rfl⟩
    · rw [decide_eq_false h2]
      go_enter Try.func29, Try.ntmps29
      go_wp2_with (fail)
      go_ret
      exact ⟨rfl, rfl⟩
  · have n1 : (G == 0) = false := by simpa using h1
    rw [if_neg h1]
    go_enter Try.func29, Try.ntmps29
    go_wp2_with (fail)
    go_ret
    exact ⟨rfl, rfl⟩
def openS (r : BreakS) (s : BrS) (at_ : Int) : BrS := { s with st := 2, un := at_ + r.rec_, tr := wrap64 (s.tr + 1) }
theorem bopen_any {w : World} {q p m : Nat} {r : BreakS} {s : BrS} (h : BrAt w q p m r s) (at_ : Int) (a0 : 0 ≤ at_) (a1 : at_ ≤ 1152921504606846976) :
    Calls Try.prog 30 #[.pointer (some ⟨q, 0, none⟩), .int .i64 at_] w fun e w' => e = .returned (.tuple #[]) ∧ BrAt w' q p m r (openS r s at_) ∧ Off (fun i => i = q) w w' := by
  have h1 := h.set (s' := { s with st := 2 }) 8 (.int .u8 2) rfl rfl rfl h.wl h.la0 h.la1 (Or.inr (Or.inl rfl))
  have h2 := h1.set (s' := { s with st := 2, un := at_ + r.rec_ }) 9 (.int .i64 (at_ + r.rec_)) rfl rfl rfl h.wl h.la0 h.la1 (Or.inr (Or.inl rfl))
  have h3 := h2.set (s' := openS r s at_) 10 (.int .i64 (wrap64 (s.tr + 1))) rfl rfl rfl h.wl h.la0 h.la1 (Or.inr (Or.inl rfl))
  have HO := Lib.hid ((((Off.ofBelow (S := fun i => i = q) (Below.refl _ w)).setCell (p := ⟨q, 8, none⟩) (fun _ => rfl) (.int .u8 2)).setCell (p := ⟨q, 9, none⟩) (fun _ => rfl) (.int .i64 (at_ + r.rec_))).setCell (p := ⟨q, 10, none⟩) (fun _ => rfl) (.int .i64 (wrap64 (s.tr + 1))))
  have H3 := Lib.hid h3
  have c8 := h.cells.c8
  have c6 := h1.cells.c6
  have c9 := h1.cells.c9
  have c10 := h2.cells.c10
  have f8 := br_frozen h 8
  have f9 := br_frozen h1 9
  have f10 := br_frozen h2 10
  have r0 := h.ok.r0
  have r1 := h.ok.r1
  generalize hR : r.rec_ = R at *
  generalize hT : s.tr = T at *
  have hmin : min (at_ + R) 4611686018427387904 = at_ + R := by omega
  clear h h1 h2 h3
  go_enter Try.func30, Try.ntmps30
  go_wp2_with (fail)
  go_end0
  exact ⟨rfl, H3.out, HO.out⟩
end Go.Proofs.Ytlipbkpbflgamaa

/- The reference's breaker in memory; what looks at it. -/
namespace Go.Proofs.Ytlipbkpbflgamaa
open Go.RowKit
set_option linter.unusedVariables false
set_option linter.unusedSimpArgs false

/-- The reference's breaker: its window at p, until when: un. -/
def r14C (r : BreakS) (p : Nat) (s : BrS) (un : Int) : Array Value := #[.string r.res, .int .u8 r.gr, .int .i64 r.cnt, .int .i64 r.slow, .int .i64 r.least, .int .i64 r.win, .int .i64 r.rec_, .pointer (some ⟨p, 0, none⟩), .int .i64 s.st, .int .i64 un, .int .i64 s.tr, .int .i64 s.la]
def r14O (r : BreakS) (p : Nat) (s : BrS) (un : Int) : Obj := .cells (r14C r p s un) 65
structure R14At (w : World) (q p : Nat) (r : BreakS) (s : BrS) (un : Int) (v : Value) (L : List Bk3) : Prop where
  head : w.heap[q]? = some (r14O r p s un)
  win : R3At w p r.win s.wl v s.notes L
  qp : q ≠ p
  qv : v.ownBlock ≠ some q
  un_ : s.st ≠ 1 → un = s.un
  wl : s.wl ≤ s.la
  la0 : 0 ≤ s.la
  la1 : s.la ≤ 1152921504606846976
def R14Own (q p : Nat) (v : Value) (i : Nat) : Prop := i = q ∨ R3Own p v i
theorem R14At.lt {w : World} {q p : Nat} {r : BreakS} {s : BrS} {un : Int} {v : Value} {L : List Bk3} (h : R14At w q p r s un v L) {i : Nat} (hi : R14Own q p v i) : i < w.heap.size := by
  rcases hi with rfl | hi
  · exact (Array.getElem?_eq_some_iff.1 h.head).1
  · exact h.win.lt hi
theorem R14At.kept {w w' : World} {q p : Nat} {r : BreakS} {s : BrS} {un : Int} {v : Value} {L : List Bk3} (h : R14At w q p r s un v L) (hk : ∀ i, R14Own q p v i → w'.heap[i]? = w.heap[i]?) : R14At w' q p r s un v L :=
  ⟨(hk q (Or.inl rfl)).trans h.head, h.win.kept (fun i hi => hk i (Or.inr hi)), h.qp, h.qv, h.un_, h.wl, h.la0, h.la1⟩
theorem R14At.below {w w' : World} {q p : Nat} {r : BreakS} {s : BrS} {un : Int} {v : Value} {L : List Bk3} (h : R14At w q p r s un v L) (hb : Below w.heap.size w w') : R14At w' q p r s un v L := h.kept (fun i hi => hb.block i (h.lt hi))
structure R14Cells (w : World) (q p : Nat) (r : BreakS) (s : BrS) (un : Int) : Prop where
  c0 : w.cell? ⟨q, 0, none⟩ = some (.string r.res)
  c1 : w.cell? ⟨q, 1, none⟩ = some (.int .u8 r.gr)
  c2 : w.cell? ⟨q, 2, none⟩ = some (.int .i64 r.cnt)
  c3 : w.cell? ⟨q, 3, none⟩ = some (.int .i64 r.slow)
  c4 : w.cell? ⟨q, 4, none⟩ = some (.int .i64 r.least)
  c5 : w.cell? ⟨q, 5, none⟩ = some (.int .i64 r.win)
  c6 : w.cell? ⟨q, 6, none⟩ = some (.int .i64 r.rec_)
  c7 : w.cell? ⟨q, 7, none⟩ = some (.pointer (some ⟨p, 0, none⟩))
  c8 : w.cell? ⟨q, 8, none⟩ = some (.int .i64 s.st)
  c9 : w.cell? ⟨q, 9, none⟩ = some (.int .i64 un)
  c10 : w.cell? ⟨q, 10, none⟩ = some (.int .i64 s.tr)
  c11 : w.cell? ⟨q, 11, none⟩ = some (.int .i64 s.la)
theorem R14At.cells {w : World} {q p : Nat} {r : BreakS} {s : BrS} {un : Int} {v : Value} {L : List Bk3} (h : R14At w q p r s un v L) : R14Cells w q p r s un := by
  have := h.head
  constructor <;> simp [World.cell?, this, r14O, r14C]
set_option maxHeartbeats 800000 in
theorem r2time_any (n : Int) (w : World) : Calls Try.prog 62 #[.int .i64 n] w fun e w' => e = .returned (.bool (isT n)) ∧ w' = w := by
  unfold isT
  by_cases h : 0 ≤ n
  · rw [decide_eq_true h, Bool.true_and]
    go_enter Try.func62, Try.ntmps62
    go_wp2_with (fail)
    go_ret
    exact ⟨rfl, rfl⟩
  · rw [decide_eq_false h, Bool.false_and]
    go_enter Try.func62, Try.ntmps62
    go_wp2_with (fail)
    go_ret
    exact ⟨rfl, rfl⟩
/-- The error of times. -/
def wrong14 (la at_ rt : Int) : Int := if isT at_ = false ∨ isT rt = false then 2 else if at_ < la then 7 else 0
set_option maxHeartbeats 1600000 in
theorem r14wrong_any {w : World} {q p : Nat} {r : BreakS} {s : BrS} {un : Int} (h : R14Cells w q p r s un) (at_ rt : Int) : Calls Try.prog 44 #[.pointer (some ⟨q, 0, none⟩), .int .i64 at_, .int .i64 rt] w fun e w' => e = .returned (.int .i64 (wrong14 s.la at_ rt)) ∧ w' = w := by
  have c11 := h.c11
  have H1 := Lib.hid (r2time_any at_ w)
  have H2 := Lib.hid (r2time_any rt w)
  unfold wrong14
  generalize s.la = A at *
  clear h
  cases hA : isT at_ with
  | false =>
    rw [hA] at H1
    rw [if_pos (Or.inl rfl)]
    go_enter Try.func44, Try.ntmps44
    go_wp2_with (fail)
    refine H1.out.mono ?_
    rintro e wq ⟨rfl, hq⟩
    rw [hq]
    clear hq
    go_wp2_with (fail)
    go_ret
    exact ⟨rfl, rfl⟩
  | true =>
    rw [hA] at H1
    cases hR : isT rt with
    | false =>
      rw [hR] at H2
      rw [if_pos (Or.inr rfl)]
      go_enter Try.func44, Try.ntmps44
      go_wp2_with (fail)
      refine H1.out.mono ?_
      rintro e wq ⟨rfl, hq⟩
      rw [hq]
      clear hq
      go_wp2_with (fail)
      refine H2.out.mono ?_
      rintro e wq ⟨rfl, hq⟩
      rw [hq]
      clear hq
      go_wp2_with (fail)
      go_ret
      exact ⟨rfl, rfl⟩
    | true =>
      rw [hR] at H2
      rw [if_neg (by simp)]
      by_cases hlt : at_ < A
      · rw [if_pos hlt]
        go_enter Try.func44, Try.ntmps44
        go_wp2_with (fail)
        refine H1.out.mono ?_
        rintro e wq ⟨rfl, hq⟩
        rw [hq]
        clear hq
        go_wp2_with (fail)
        refine H2.out.mono ?_
        rintro e wq ⟨rfl, hq⟩
        rw [hq]
        clear hq
        go_wp2_with (fail)
        go_ret
        exact ⟨rfl, rfl⟩
      · rw [if_neg hlt]
        go_enter Try.func44, Try.ntmps44
        go_wp2_with (fail)
        refine H1.out.mono ?_
        rintro e wq ⟨rfl, hq⟩
        rw [hq]
        clear hq
        go_wp2_with (fail)
        refine H2.out.mono ?_
        rintro e wq ⟨rfl, hq⟩
        rw [hq]
        clear hq
        go_wp2_with (fail)
        go_ret
        exact ⟨rfl, rfl⟩
set_option maxHeartbeats 1600000 in
theorem r14passes_any {w : World} {q p : Nat} {r : BreakS} {s : BrS} {un : Int} (h : R14Cells w q p r s un) (hu : s.st ≠ 1 → un = s.un) (at_ : Int) :
    Calls Try.prog 28 #[.pointer (some ⟨q, 0, none⟩), .int .i64 at_] w fun e w' => e = .returned (.bool (passB s at_)) ∧ w' = w := by
  have c8 := h.c8
  have c9 := h.c9
  have e : passB s at_ = (decide (s.st = 1) || (decide (s.st = 2) && decide (un ≤ at_))) := by
    unfold passB
    by_cases h1 : s.st = 1
    · simp [h1]
    · rw [hu h1]
  rw [e]
  generalize s.st = T at *
  generalize un = U at *
  clear h e hu
  by_cases h1 : T = 1
  · subst h1
    go_enter Try.func28, Try.ntmps28
    go_wp2_with (fail)
    go_ret
    exact ⟨rfl, rfl⟩
  · have n1 : (T == 1) = false := by simpa using h1
    rw [decide_eq_false h1, Bool.false_or]
    by_cases h2 : T = 2
    · subst h2
      by_cases h3 : U ≤ at_
      · rw [decide_eq_true h3]
        go_enter Try.func28, Try.ntmps28
        go_wp2_with (fail)
        go_ret
        exact ⟨rfl, rfl⟩
      · rw [decide_eq_false h3]
        go_enter Try.func28, Try.ntmps28
        go_wp2_with (fail)
        go_ret
        exact ⟨rfl, rfl⟩
    · have n2 : (T == 2) = false := by simpa using h2
      rw [decide_eq_false h2, Bool.false_and]
      go_enter Try.func28, Try.ntmps28
      go_wp2_with (fail)
      go_ret
      exact ⟨rfl, rfl⟩
set_option maxHeartbeats 1600000 in
theorem r14bad_any {w : World} {q p : Nat} {r : BreakS} {s : BrS} {un : Int} (h : R14Cells w q p r s un) (rt : Int) (failed : Bool) :
    Calls Try.prog 45 #[.pointer (some ⟨q, 0, none⟩), .int .i64 rt, .bool failed] w fun e w' => e = .returned (.bool (badB r rt failed)) ∧ w' = w := by
  have c1 := h.c1
  have c3 := h.c3
  unfold badB
  generalize r.gr = G at *
  generalize r.slow = S at *
  clear h
  by_cases h1 : G = 0
  · subst h1
    rw [if_pos rfl]
    by_cases h2 : S < rt
    · rw [decide_eq_true h2]
      go_enter Try.func45, Try.ntmps45
      go_wp2_with (fail)
      go_ret
      exact ⟨rfl, rfl⟩
    · rw [decide_eq_false h2]
      go_enter Try.func45, Try.ntmps45
      go_wp2_with (fail)
      go_ret
      exact ⟨rfl, rfl⟩
  · have n1 : (G == 0) = false := by simpa using h1
    rw [if_neg h1]
    go_enter Try.func45, Try.ntmps45
    go_wp2_with (fail)
    go_ret
    exact ⟨rfl, rfl⟩
end Go.Proofs.Ytlipbkpbflgamaa
