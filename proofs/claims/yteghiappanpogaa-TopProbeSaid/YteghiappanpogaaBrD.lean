/- breaker: a new one; whoever looks, enters, gives up. -/
import Derived.Test.YteghiappanpogaaBrC
import Derived.OwnWalk
namespace Go.Proofs.Yteghiappanpogaa
open Go.RowKit
set_option linter.unusedVariables false
set_option linter.unusedSimpArgs false

def brCv (r : BreakS) (pv : Value) (s : BrS) : Array Value := #[.string r.res, .int .u8 r.gr, .int .i64 r.cnt, .int .i64 r.slow, .int .i64 r.least, .int .i64 r.win, .int .i64 r.rec_, pv, .int .u8 s.st, .int .i64 s.un, .int .i64 s.tr, .int .i64 s.la]
theorem shapeB {r : BreakS} (h : BreakOk r) : ShapeW r.win 1 := ⟨by have := h.w0; omega, by have := h.w1; omega, by omega, by omega, Int.emod_one _⟩
theorem off_q {w w' : World} {q p m : Nat} (h : Off (fun i => i = q) w w') : Off (BOwn q p m) w w' := h.mono (fun i _ e => Or.inl e)

set_option maxHeartbeats 800000 in
theorem bclear_any {w : World} {q : Nat} {r : BreakS} {pv : Value} {s : BrS} (hh : w.heap[q]? = some (.cells (brCv r pv s) 49)) (ok : BreakOk r) :
    Calls Try.prog 12 #[.pointer (some ⟨q, 0, none⟩)] w fun e w' => e = .returned (.tuple #[]) ∧ w'.heap[q]? = some (brO r (w.heap.size + 1) s) ∧ WinN w' (w.heap.size + 1) w.heap.size r.win 1 0 [] ∧ Off (fun i => i = q) w w' := by
  have c5 : w.cell? ⟨q, 5, none⟩ = some (.int .i64 r.win) := by simp only [World.cell?, hh]; rfl
  have hql : q < w.heap.size := (Array.getElem?_eq_some_iff.1 hh).1
  have hw := winN_made w (shapeB ok)
  have HW := Lib.hid (wnew_any w (shapeB ok))
  have hb : Below w.heap.size w ((w.alloc (.map #[] 0)).alloc (winObj r.win 1 w.heap.size)) := ((Below.refl _ _).alloc (Nat.le_refl _) _).alloc (by simp) _
  have hz : ((w.alloc (.map #[] 0)).alloc (winObj r.win 1 w.heap.size)).heap.size = w.heap.size + 2 := by simp
  generalize (w.alloc (.map #[] 0)).alloc (winObj r.win 1 w.heap.size) = w2 at *
  have hh2 := (hb.block q hql).trans hh
  have HH := Lib.hid (heap_setCell_same w2 q 7 _ _ (.pointer (some ⟨w.heap.size + 1, 0, none⟩)) hh2)
  have HV := Lib.hid (show WinN (w2.setCell ⟨q, 7, none⟩ (.pointer (some ⟨w.heap.size + 1, 0, none⟩))) (w.heap.size + 1) w.heap.size r.win 1 0 [] from hw.kept (heap_setCell_other w2 ⟨q, 7, none⟩ _ _ (by show w.heap.size + 1 ≠ q; omega)) (heap_setCell_other w2 ⟨q, 7, none⟩ _ _ (by show w.heap.size ≠ q; omega)))
  have HO := Lib.hid ((Off.ofBelow (S := fun i => i = q) hb).setCell (p := ⟨q, 7, none⟩) (fun _ => rfl) (.pointer (some ⟨w.heap.size + 1, 0, none⟩)))
  have f7 : w2.frozen? ⟨q, 7, none⟩ = false := frozen_of_row w2 q 7 _ _ hh2
  have c7 : w2.cell? ⟨q, 7, none⟩ = some pv := by simp only [World.cell?, hh2]; rfl
  clear hh hh2 hb hz hw ok hql
  generalize r.win = W at *
  go_enter Try.func12, Try.ntmps12
  go_wp2_with (fail)
  refine HW.out.mono ?_
  rintro e wq ⟨rfl, hq⟩
  subst hq
  go_wp2_with (fail)
  go_end0
  exact ⟨rfl, HH.out, HV.out, HO.out⟩
def new0 : BrS := ⟨1, 0, 0, 0, 0, []⟩
structure NewPost (w : World) (r : BreakS) (e : Ending) (w' : World) : Prop where
  no : breakE r ≠ 0 → e = .returned (.tuple #[.pointer none, .int .i64 (breakE r)]) ∧ Below w.heap.size w w'
  yes : breakE r = 0 → ∃ q p m, e = .returned (.tuple #[.pointer (some ⟨q, 0, none⟩), .int .i64 0]) ∧ BrAt w' q p m r new0 ∧ Below w.heap.size w w' ∧ w.heap.size ≤ q ∧ w.heap.size ≤ p ∧ w.heap.size ≤ m
set_option maxHeartbeats 1600000 in
set_option maxRecDepth 100000 in
theorem bnew_any (r : BreakS) (hz : r.res.size ≤ maxLen) (w : World) : Calls Try.prog 6 #[r.v] w (NewPost w r) := by
  have hbx : Below w.heap.size w (w.alloc (brkO r)) := (Below.refl _ _).alloc (Nat.le_refl _) _
  have hN : (w.alloc (brkO r)).heap[w.heap.size]? = some (brkO r) := (get_allocW w _ _).trans (if_pos rfl)
  have hnz : w.heap.size < (w.alloc (brkO r)).heap.size := by simp
  have HB := Lib.hid (break_any r hz (w.alloc (brkO r)))
  have HBX := Lib.hid hbx
  have HN := Lib.hid hN
  have HNZ := Lib.hid hnz
  clear hz hbx hN hnz
  unfold brkO at HB HBX HN HNZ
  by_cases hE : breakE r = 0
  · have HE := Lib.hid hE
    have HOK := Lib.hid (breakE_ok hE)
    rw [hE] at HB
    have HCL := Lib.hid (fun (wx : World) (q : Nat) (pv : Value) hh => bclear_any (w := wx) (q := q) (pv := pv) (s := new0) hh HOK.out)
    clear hE
    obtain ⟨rn, rg, rc, rs, rl, rw_, rr⟩ := r
    unfold BreakS.v BreakS.cells at HB
    unfold BreakS.v BreakS.cells
    unfold BreakS.cells at HBX HN HNZ
    dsimp only at HB HBX HN HNZ ⊢
    go_enter Try.func6, Try.ntmps6
    go_wp2_with (fail)
    refine HB.out.mono ?_
    rintro e w1 ⟨rfl, h1⟩
    have hn1 := (h1.block w.heap.size HNZ.out).trans HN.out
    have c0 : w1.cell? ⟨w.heap.size, 0, none⟩ = some (.string rn) := by simp only [World.cell?, hn1]; rfl
    have c1 : w1.cell? ⟨w.heap.size, 1, none⟩ = some (.int .u8 rg) := by simp only [World.cell?, hn1]; rfl
    have c2 : w1.cell? ⟨w.heap.size, 2, none⟩ = some (.int .i64 rc) := by simp only [World.cell?, hn1]; rfl
    have c3 : w1.cell? ⟨w.heap.size, 3, none⟩ = some (.int .i64 rs) := by simp only [World.cell?, hn1]; rfl
    have c4 : w1.cell? ⟨w.heap.size, 4, none⟩ = some (.int .i64 rl) := by simp only [World.cell?, hn1]; rfl
    have c5 : w1.cell? ⟨w.heap.size, 5, none⟩ = some (.int .i64 rw_) := by simp only [World.cell?, hn1]; rfl
    have c6 : w1.cell? ⟨w.heap.size, 6, none⟩ = some (.int .i64 rr) := by simp only [World.cell?, hn1]; rfl
    have HB1 := Lib.hid (HBX.out.trans (h1.mono HBX.out.size))
    clear hn1 h1 HB HBX HN HNZ
    go_wp2_with (fail)
    have hN2 : (w1.alloc (.cells (brCv ⟨rn, rg, rc, rs, rl, rw_, rr⟩ (.pointer none) new0) 49)).heap[w1.heap.size]? = some (.cells (brCv ⟨rn, rg, rc, rs, rl, rw_, rr⟩ (.pointer none) new0) 49) := (get_allocW w1 _ _).trans (if_pos rfl)
    have HCW := Lib.hid (HCL.out _ _ _ hN2)
    unfold brCv new0 at HCW
    dsimp only at HCW
    clear hN2
    refine HCW.out.mono ?_
    rintro e w3 ⟨rfl, hh3, hw3, ho3⟩
    have HH3 := Lib.hid hh3
    have HW3 := Lib.hid hw3
    have HO3 := Lib.hid ho3
    clear hh3 hw3 ho3 HCW HCL
    go_wp2_with (fail)
    go_ret2
    have hs := HB1.out.size
    have hal : Below w1.heap.size w1 (w1.alloc (.cells #[.string rn, .int .u8 rg, .int .i64 rc, .int .i64 rs, .int .i64 rl, .int .i64 rw_, .int .i64 rr, .pointer none, .int .u8 1, .int .i64 0, .int .i64 0, .int .i64 0] 49)) := (Below.refl _ _).alloc (Nat.le_refl _) _
    refine ⟨fun h => absurd HE.out h, fun _ => ⟨_, _, _, rfl, ⟨HH3.out, HW3.out, ?_, ?_, by decide, by decide, by decide, Or.inl rfl, HOK.out⟩, (HB1.out.trans (hal.mono hs)).trans (HO3.out.below (Nat.le_trans hs hal.size) (fun i hi e => by omega)), hs, ?_, ?_⟩⟩
    · first | (simp; done) | (simp; omega)
    · first | (simp; done) | (simp; omega)
    · first | (simp; done) | (simp; omega)
    · first | (simp; done) | (simp; omega)
  · have HE := Lib.hid hE
    obtain ⟨E, hEE⟩ : ∃ E, breakE r = E := ⟨_, rfl⟩
    have HEE := Lib.hid hEE
    rw [hEE] at hE HB
    have hne : (E != 0) = true := by simpa using hE
    clear hE hEE
    obtain ⟨rn, rg, rc, rs, rl, rw_, rr⟩ := r
    unfold BreakS.v BreakS.cells at HB
    unfold BreakS.v BreakS.cells
    unfold BreakS.cells at HBX HN HNZ
    dsimp only at HB HBX HN HNZ ⊢
    go_enter Try.func6, Try.ntmps6
    go_wp2_with (fail)
    refine HB.out.mono ?_
    rintro e w1 ⟨rfl, h1⟩
    have HB1 := Lib.hid (HBX.out.trans (h1.mono HBX.out.size))
    clear h1 HB HBX HN HNZ
    go_wp2_with (fail)
    go_ret2
    exact ⟨fun _ => ⟨by rw [HEE.out]; rfl, HB1.out⟩, fun h => absurd h HE.out⟩

/-- Who enters. -/
def enterS (s : BrS) (at_ : Int) : BrS := if lookW s.la at_ = 0 then { s with la := at_, st := if s.st = 2 ∧ s.un ≤ at_ then 3 else s.st } else s
def enterP (s : BrS) (at_ : Int) : Bool := decide (lookW s.la at_ = 0) && (decide (s.st = 2) && decide (s.un ≤ at_))
def enterA (s : BrS) (at_ : Int) : Bool := decide (lookW s.la at_ = 0) && passB s at_
set_option maxHeartbeats 1600000 in
theorem benter_any {w : World} {q p m : Nat} {r : BreakS} {s : BrS} (h : BrAt w q p m r s) (at_ : Int) :
    Calls Try.prog 8 #[.pointer (some ⟨q, 0, none⟩), .int .i64 at_] w fun e w' => e = .returned (.tuple #[.bool (enterA s at_), .bool (enterP s at_), .int .i64 (lookW s.la at_)]) ∧ BrAt w' q p m r (enterS s at_) ∧ Off (fun i => i = q) w w' := by
  have HL := Lib.hid (blook_any h at_)
  by_cases hE : lookW s.la at_ = 0
  · obtain ⟨a0, a1, a2⟩ := lookW_ok hE
    have h1 := h.set (s' := { s with la := at_ }) 11 (.int .i64 at_) rfl rfl rfl (by have := h.wl; show s.wl ≤ at_; omega) a0 a1 h.st
    have HO1 := Lib.hid ((Off.ofBelow (S := fun i => i = q) (Below.refl _ w)).setCell (p := ⟨q, 11, none⟩) (fun _ => rfl) (.int .i64 at_))
    have HP := Lib.hid (bpasses_any h1.cells at_)
    have h2 := h1.set (s' := { s with la := at_, st := 3 }) 8 (.int .u8 3) rfl rfl rfl h1.wl a0 a1 (Or.inr (Or.inr rfl))
    have HO2 := Lib.hid (HO1.out.setCell (p := ⟨q, 8, none⟩) (fun _ => rfl) (.int .u8 3))
    have HH1 := Lib.hid h1
    have HH2 := Lib.hid h2
    have c11 := h.cells.c11
    have f11 := br_frozen h 11
    have c8 := h1.cells.c8
    have f8 := br_frozen h1 8
    unfold enterA enterP enterS
    rw [show passB { s with la := at_ } at_ = passB s at_ from rfl] at HP
    rw [if_pos hE, hE, decide_eq_true rfl, Bool.true_and, Bool.true_and]
    rw [hE] at HL
    clear h1 h2 hE a0 a1 a2
    dsimp only at c8
    rcases h.st with hst | hst | hst
    · rw [hst] at c8
      rw [show passB s at_ = true by unfold passB; rw [hst]; simp] at HP ⊢
      rw [show decide (s.st = 2) = false by rw [hst]; decide, Bool.false_and, if_neg (by rw [hst]; simp)]
      clear hst h
      go_enter Try.func8, Try.ntmps8
      go_wp2_with (fail)
      refine HL.out.mono ?_
      rintro e wq ⟨rfl, hq⟩
      subst hq
      go_wp2_with (fail)
      refine HP.out.mono ?_
      rintro e wq2 ⟨rfl, hq⟩
      subst hq
      go_wp2_with (fail)
      go_ret3
      exact ⟨rfl, HH1.out, HO1.out⟩
    · rw [hst] at c8
      by_cases hu : s.un ≤ at_
      · rw [show passB s at_ = true by unfold passB; rw [hst, decide_eq_true hu]; simp] at HP ⊢
        rw [show decide (s.st = 2) = true by rw [hst]; decide, decide_eq_true hu, Bool.true_and, if_pos ⟨hst, hu⟩]
        clear hst h hu
        go_enter Try.func8, Try.ntmps8
        go_wp2_with (fail)
        refine HL.out.mono ?_
        rintro e wq ⟨rfl, hq⟩
        subst hq
        go_wp2_with (fail)
        refine HP.out.mono ?_
        rintro e wq2 ⟨rfl, hq⟩
        subst hq
        go_wp2_with (fail)
        go_ret3
        exact ⟨rfl, HH2.out, HO2.out⟩
      · rw [show passB s at_ = false by unfold passB; rw [hst, decide_eq_false hu]; simp] at HP ⊢
        rw [show decide (s.st = 2) = true by rw [hst]; decide, decide_eq_false hu, Bool.true_and, if_neg (fun h => hu h.2)]
        clear hst h hu
        go_enter Try.func8, Try.ntmps8
        go_wp2_with (fail)
        refine HL.out.mono ?_
        rintro e wq ⟨rfl, hq⟩
        subst hq
        go_wp2_with (fail)
        refine HP.out.mono ?_
        rintro e wq2 ⟨rfl, hq⟩
        subst hq
        go_wp2_with (fail)
        go_ret3
        exact ⟨rfl, HH1.out, HO1.out⟩
    · rw [hst] at c8
      rw [show passB s at_ = false by unfold passB; rw [hst]; simp] at HP ⊢
      rw [show decide (s.st = 2) = false by rw [hst]; decide, Bool.false_and, if_neg (by rw [hst]; simp)]
      clear hst h
      go_enter Try.func8, Try.ntmps8
      go_wp2_with (fail)
      refine HL.out.mono ?_
      rintro e wq ⟨rfl, hq⟩
      subst hq
      go_wp2_with (fail)
      refine HP.out.mono ?_
      rintro e wq2 ⟨rfl, hq⟩
      subst hq
      go_wp2_with (fail)
      go_ret3
      exact ⟨rfl, HH1.out, HO1.out⟩
  · have HH := Lib.hid h
    unfold enterA enterP enterS
    rw [if_neg hE, decide_eq_false hE, Bool.false_and, Bool.false_and]
    generalize lookW s.la at_ = E at *
    have hne : (E != 0) = true := by simpa using hE
    clear hE h
    go_enter Try.func8, Try.ntmps8
    go_wp2_with (fail)
    refine HL.out.mono ?_
    rintro e wq ⟨rfl, hq⟩
    subst hq
    go_wp2_with (fail)
    go_ret3
    exact ⟨rfl, HH.out, Off.ofBelow (Below.refl _ _)⟩
/-- Who gives up. -/
def giveE (s : BrS) (at_ : Int) : Int := if lookW s.la at_ ≠ 0 then lookW s.la at_ else if s.st = 3 then 0 else 4
def giveS (s : BrS) (at_ : Int) : BrS := if giveE s at_ = 0 then { s with la := at_, st := 2 } else s
theorem bstate_any {w : World} {q p m : Nat} {r : BreakS} {s : BrS} (h : BrAt w q p m r s) : Calls Try.prog 10 #[.pointer (some ⟨q, 0, none⟩)] w fun e w' => e = .returned (.int .u8 s.st) ∧ w' = w := by
  have c8 := h.cells.c8
  clear h
  go_enter Try.func10, Try.ntmps10
  go_wp2_with (fail)
  go_ret
  exact ⟨rfl, rfl⟩
def untilN (s : BrS) : Int := if s.st = 1 then 0 else s.un
end Go.Proofs.Yteghiappanpogaa
