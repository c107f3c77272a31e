/- Texts of one chain, one behind the other: BrD, BrE, R14B, R14C, R14D, R14E, R14F, BrF, R14G. -/
import Derived.OwnWalk
import Derived.Test.YtlipbkpbflgamaaGStC
import Derived.Test.YtlipbkpbflgamaaGBits

/- breaker: a new one; whoever looks, enters, gives up. -/
namespace Go.Proofs.Ytlipbkpbflgamaa
open Go.RowKit
set_option linter.unusedVariables false
set_option linter.unusedSimpArgs false

def brCv (r : BreakS) (pv : Value) (s : BrS) : Array Value := #[.string r.res, .int .u8 r.gr, .int .i64 r.cnt, .int .i64 r.slow, .int .i64 r.least, .int .i64 r.win, .int .i64 r.rec_, pv, .int .u8 s.st, .int .i64 s.un, .int .i64 s.tr, .int .i64 s.la]
theorem shapeB {r : BreakS} (h : BreakOk r) : ShapeW r.win 1 := ⟨by have := h.w0; omega, by have := h.w1; omega, by omega, by omega, Int.emod_one _⟩
theorem off_q {w w' : World} {q p m : Nat} (h : Off (fun i => i = q) w w') : Off (BOwn q p m) w w' := h.mono (fun i _ e => Or.inl e)

set_option maxHeartbeats 800000 in
theorem bclear_any {w : World} {q : Nat} {r : BreakS} {pv : Value} {s : BrS} (hh : w.heap[q]? = some (.cells (brCv r pv s) 60)) (ok : BreakOk r) :
    Calls Try.prog 17 #[.pointer (some ⟨q, 0, none⟩)] w fun e w' => e = .returned (.tuple #[]) ∧ w'.heap[q]? = some (brO r (w.heap.size + 1) s) ∧ WinN w' (w.heap.size + 1) w.heap.size r.win 1 0 [] ∧ Off (fun i => i = q) w w' := by
  have c5 : w.cell? ⟨q, 5, none⟩ = some (.int .i64 r.win) := by simp only [World.cell?, hh]; rfl
  have hql : q < w.heap.size := (Array.getElem?_eq_some_iff.1 hh).1
  have hw := winN_made w (shapeB ok)
  have HW := Lib.hid (wnew_any w (shapeB ok))
  have hb : Below w.heap.size w ((w.alloc (.map #[] 0)).alloc (winObj r.win 1 w.heap.size)) := ((Below.refl _ _).alloc (Nat.le_refl _) _).alloc (by simp) _
  have hz : ((w.alloc (.map #[] 0)).alloc (winObj r.win 1 w.heap.size)).heap.size = w.heap.size + 2 := by simp
  generalize (w.alloc (.map #[] 0)).alloc (winObj r.win 1 w.heap.size) = w2 at *
  have hh2 := (hb.block q hql).trans hh
  have HH := Lib.hid (heap_setCell_same w2 q 7 _ _ (.pointer (some ⟨w.heap.size + 1, 0, none⟩)) hh2)
  have HV := Lib.hid (show WinN (w2.setCell ⟨q, 7, none⟩ (.pointer (some ⟨w.heap.size + 1, 0, none⟩))) (w.heap.size + 1) w.heap.size r.win 1 0 [] from hw.kept (heap_setCell_other w2 ⟨q, 7, none⟩ _ _ (by show w.heap.size + 1 ≠ q; omega)) (heap_setCell_other w2 ⟨q, 7, none⟩ _ _ (by show w.heap.size ≠ q; omega)))
  have HO := Lib.hid ((Off.ofBelow (S := fun i => i = q) hb).setCell (p := ⟨q, 7, none⟩) (fun _ => rfl) (.pointer (some ⟨w.heap.size + 1, 0, none⟩)))
  have f7 : w2.frozen? ⟨q, 7, none⟩ = false := frozen_of_row w2 q 7 _ _ hh2
  have c7 : w2.cell? ⟨q, 7, none⟩ = some pv := by simp only [World.cell?, hh2]; rfl
  clear hh hh2 hb hz hw ok hql
  generalize r.win = W at *
  go_enter Try.func17, Try.ntmps17
  go_wp2_with (fail)
  refine HW.out.mono ?_
  rintro e wq ⟨rfl, hq⟩
  subst hq
  go_wp2_with (fail)
  go_end0
  exact ⟨rfl, HH.out, HV.out, HO.out⟩
def new0 : BrS := ⟨1, 0, 0, 0, 0, []⟩
structure NewPost (w : World) (r : BreakS) (e : Ending) (w' : World) : Prop where
  no : breakE r ≠ 0 → e = .returned (.tuple #[.pointer none, .int .i64 (breakE r)]) ∧ Below w.heap.size w w'
  yes : breakE r = 0 → ∃ q p m, e = .returned (.tuple #[.pointer (some ⟨q, 0, none⟩), .int .i64 0]) ∧ BrAt w' q p m r new0 ∧ Below w.heap.size w w' ∧ w.heap.size ≤ q ∧ w.heap.size ≤ p ∧ w.heap.size ≤ m
set_option maxHeartbeats 1600000 in
set_option maxRecDepth 100000 in
theorem bnew_any (r : BreakS) (hz : r.res.size ≤ maxLen) (w : World) : Calls Try.prog 5 #[r.v] w (NewPost w r) := by
  have hbx : Below w.heap.size w (w.alloc (brkO r)) := (Below.refl _ _).alloc (Nat.le_refl _) _
  have hN : (w.alloc (brkO r)).heap[w.heap.size]? = some (brkO r) := (get_allocW w _ _).trans (if_pos rfl)
  have hnz : w.heap.size < (w.alloc (brkO r)).heap.size := by simp
  have HB := Lib.hid (break_any r hz (w.alloc (brkO r)))
  have HBX := Lib.hid hbx
  have HN := Lib.hid hN
  have HNZ := Lib.hid hnz
  clear hz hbx hN hnz
  unfold brkO at HB HBX HN HNZ
  by_cases hE : breakE r = 0
  · have HE := Lib.hid hE
    have HOK := Lib.hid (breakE_ok hE)
    rw [hE] at HB
    have HCL := Lib.hid (fun (wx : World) (q : Nat) (pv : Value) hh => bclear_any (w := wx) (q := q) (pv := pv) (s := new0) hh HOK.out)
    clear hE
    obtain ⟨rn, rg, rc, rs, rl, rw_, rr⟩ := r
    unfold BreakS.v BreakS.cells at HB
    unfold BreakS.v BreakS.cells
    unfold BreakS.cells at HBX HN HNZ
    dsimp only at HB HBX HN HNZ ⊢
    go_enter Try.func5, Try.ntmps5
    go_wp2_with (fail)
    refine HB.out.mono ?_
    rintro e w1 ⟨rfl, h1⟩
    have hn1 := (h1.block w.heap.size HNZ.out).trans HN.out
    have c0 : w1.cell? ⟨w.heap.size, 0, none⟩ = some (.string rn) := by simp only [World.cell?, hn1]; rfl
    have c1 : w1.cell? ⟨w.heap.size, 1, none⟩ = some (.int .u8 rg) := by simp only [World.cell?, hn1]; rfl
    have c2 : w1.cell? ⟨w.heap.size, 2, none⟩ = some (.int .i64 rc) := by simp only [World.cell?, hn1]; rfl
    have c3 : w1.cell? ⟨w.heap.size, 3, none⟩ = some (.int .i64 rs) := by simp only [World.cell?, hn1]; rfl
    have c4 : w1.cell? ⟨w.heap.size, 4, none⟩ = some (.int .i64 rl) := by simp only [World.cell?, hn1]; rfl
    have c5 : w1.cell? ⟨w.heap.size, 5, none⟩ = some (.int .i64 rw_) := by simp only [World.cell?, hn1]; rfl
    have c6 : w1.cell? ⟨w.heap.size, 6, none⟩ = some (.int .i64 rr) := by simp only [World.cell?, hn1]; rfl
    have HB1 := Lib.hid (HBX.out.trans (h1.mono HBX.out.size))
    clear hn1 h1 HB HBX HN HNZ
    go_wp2_with (fail)
    have hN2 : (w1.alloc (.cells (brCv ⟨rn, rg, rc, rs, rl, rw_, rr⟩ (.pointer none) new0) 60)).heap[w1.heap.size]? = some (.cells (brCv ⟨rn, rg, rc, rs, rl, rw_, rr⟩ (.pointer none) new0) 60) := (get_allocW w1 _ _).trans (if_pos rfl)
    have HCW := Lib.hid (HCL.out _ _ _ hN2)
    unfold brCv new0 at HCW
    dsimp only at HCW
    clear hN2
    refine HCW.out.mono ?_
    rintro e w3 ⟨rfl, hh3, hw3, ho3⟩
    have HH3 := Lib.hid hh3
    have HW3 := Lib.hid hw3
    have HO3 := Lib.hid ho3
    clear hh3 hw3 ho3 HCW HCL
    go_wp2_with (fail)
    go_ret2
    have hs := HB1.out.size
    have hal : Below w1.heap.size w1 (w1.alloc (.cells #[.string rn, .int .u8 rg, .int .i64 rc, .int .i64 rs, .int .i64 rl, .int .i64 rw_, .int .i64 rr, .pointer none, .int .u8 1, .int .i64 0, .int .i64 0, .int .i64 0] 60)) := (Below.refl _ _).alloc (Nat.le_refl _) _
    refine ⟨fun h => absurd HE.out h, fun _ => ⟨_, _, _, rfl, ⟨HH3.out, HW3.out, ?_, ?_, by decide, by decide, by decide, Or.inl rfl, HOK.out⟩, (HB1.out.trans (hal.mono hs)).trans (HO3.out.below (Nat.le_trans hs hal.size) (fun i hi e => by omega)), hs, ?_, ?_⟩⟩
    · first | (simp; done) | (simp; omega)
    · first | (simp; done) | (simp; omega)
    · first | (simp; done) | (simp; omega)
    · first | (simp; done) | (simp; omega)
  · have HE := Lib.hid hE
    obtain ⟨E, hEE⟩ : ∃ E, breakE r = E := ⟨_, rfl⟩
    have HEE := Lib.hid hEE
    rw [hEE] at hE HB
    have hne : (E != 0) = true := by simpa using hE
    clear hE hEE
    obtain ⟨rn, rg, rc, rs, rl, rw_, rr⟩ := r
    unfold BreakS.v BreakS.cells at HB
    unfold BreakS.v BreakS.cells
    unfold BreakS.cells at HBX HN HNZ
    dsimp only at HB HBX HN HNZ ⊢
    go_enter Try.func5, Try.ntmps5
    go_wp2_with (fail)
    refine HB.out.mono ?_
    rintro e w1 ⟨rfl, h1⟩
    have HB1 := Lib.hid (HBX.out.trans (h1.mono HBX.out.size))
    clear h1 HB HBX HN HNZ
    go_wp2_with (fail)
    go_ret2
    exact ⟨fun _ => ⟨by rw [HEE.out]; rfl, HB1.out⟩, fun h => absurd h HE.out⟩

set_option maxHeartbeats 800000 in
theorem blookp_any {w : World} {q p m : Nat} {r : BreakS} {s : BrS} (h : BrAt w q p m r s) (at_ : Int) :
    Calls Try.prog 12 #[.pointer (some ⟨q, 0, none⟩), .int .i64 at_] w fun e w' => e = .returned (.tuple #[.bool (decide (lookW s.la at_ = 0) && passB s at_), .int .i64 (lookW s.la at_)]) ∧ w' = w := by
  have HL := Lib.hid (blook_any h at_)
  have HP := Lib.hid (bpasses_any h.cells at_)
  clear h
  generalize passB s at_ = P at *
  by_cases hE : lookW s.la at_ = 0
  · rw [hE] at HL ⊢
    rw [decide_eq_true rfl, Bool.true_and]
    clear hE
    go_enter Try.func12, Try.ntmps12
    go_wp2_with (fail)
    refine HL.out.mono ?_
    rintro e wq ⟨rfl, hq⟩
    subst hq
    go_wp2_with (fail)
    refine HP.out.mono ?_
    rintro e wq2 ⟨rfl, hq⟩
    subst hq
    go_wp2_with (fail)
    go_ret2
    exact ⟨rfl, rfl⟩
  · rw [decide_eq_false hE, Bool.false_and]
    generalize lookW s.la at_ = E at *
    have hne : (E != 0) = true := by simpa using hE
    clear hE
    go_enter Try.func12, Try.ntmps12
    go_wp2_with (fail)
    refine HL.out.mono ?_
    rintro e wq ⟨rfl, hq⟩
    subst hq
    go_wp2_with (fail)
    go_ret2
    exact ⟨rfl, rfl⟩
/-- Who enters. -/
def enterS (s : BrS) (at_ : Int) : BrS := if lookW s.la at_ = 0 then { s with la := at_, st := if s.st = 2 ∧ s.un ≤ at_ then 3 else s.st } else s
def enterP (s : BrS) (at_ : Int) : Bool := decide (lookW s.la at_ = 0) && (decide (s.st = 2) && decide (s.un ≤ at_))
def enterA (s : BrS) (at_ : Int) : Bool := decide (lookW s.la at_ = 0) && passB s at_
set_option maxHeartbeats 1600000 in
theorem benter_any {w : World} {q p m : Nat} {r : BreakS} {s : BrS} (h : BrAt w q p m r s) (at_ : Int) :
    Calls Try.prog 13 #[.pointer (some ⟨q, 0, none⟩), .int .i64 at_] w fun e w' => e = .returned (.tuple #[.bool (enterA s at_), .bool (enterP s at_), .int .i64 (lookW s.la at_)]) ∧ BrAt w' q p m r (enterS s at_) ∧ Off (fun i => i = q) w w' := by
  have HL := Lib.hid (blook_any h at_)
  by_cases hE : lookW s.la at_ = 0
  · obtain ⟨a0, a1, a2⟩ := lookW_ok hE
    have h1 := h.set (s' := { s with la := at_ }) 11 (.int .i64 at_) rfl rfl rfl (by have := h.wl; show s.wl ≤ at_; omega) a0 a1 h.st
    have HO1 := Lib.hid ((Off.ofBelow (S := fun i => i = q) (Below.refl _ w)).setCell (p := ⟨q, 11, none⟩) (fun _ => rfl) (.int .i64 at_))
    have HP := Lib.hid (bpasses_any h1.cells at_)
    have h2 := h1.set (s' := { s with la := at_, st := 3 }) 8 (.int .u8 3) rfl rfl rfl h1.wl a0 a1 (Or.inr (Or.inr rfl))
    have HO2 := Lib.hid (HO1.out.setCell (p := ⟨q, 8, none⟩) (fun _ => rfl) (.int .u8 3))
    have HH1 := Lib.hid h1
    have HH2 := Lib.hid h2
    have c11 := h.cells.c11
    have f11 := br_frozen h 11
    have c8 := h1.cells.c8
    have f8 := br_frozen h1 8
    unfold enterA enterP enterS
    rw [show passB { s with la := at_ } at_ = passB s at_ from rfl] at HP
    rw [if_pos hE, hE, decide_eq_true rfl, Bool.true_and, Bool.true_and]
    rw [hE] at HL
    clear h1 h2 hE a0 a1 a2
    dsimp only at c8
    rcases h.st with hst | hst | hst
    · rw [hst] at c8
      rw [show passB s at_ = true by unfold passB; rw [hst]; simp] at HP ⊢
      rw [show decide (s.st = 2) = false by rw [hst]; decide, Bool.false_and, if_neg (by rw [hst]; simp)]
      clear hst h
      go_enter Try.func13, Try.ntmps13
      go_wp2_with (fail)
      refine HL.out.mono ?_
      rintro e wq ⟨rfl, hq⟩
      subst hq
      go_wp2_with (fail)
      refine HP.out.mono ?_
      rintro e wq2 ⟨rfl, hq⟩
      subst hq
      go_wp2_with (fail)
      go_ret3
      exact ⟨rfl, HH1.out, HO1.out⟩
    · rw [hst] at c8
      by_cases hu : s.un ≤ at_
      · rw [show passB s at_ = true by unfold passB; rw [hst, decide_eq_true hu]; simp] at HP ⊢
        rw [show decide (s.st = 2) = true by rw [hst]; decide, decide_eq_true hu, Bool.true_and, if_pos ⟨hst, hu⟩]
        clear hst h hu
        go_enter Try.func13, Try.ntmps13
        go_wp2_with (fail)
        refine HL.out.mono ?_
        rintro e wq ⟨rfl, hq⟩
        subst hq
        go_wp2_with (fail)
        refine HP.out.mono ?_
        rintro e wq2 ⟨rfl, hq⟩
        subst hq
        go_wp2_with (fail)
        go_ret3
        exact ⟨rfl, HH2.out, HO2.out⟩
      · rw [show passB s at_ = false by unfold passB; rw [hst, decide_eq_false hu]; simp] at HP ⊢
        rw [show decide (s.st = 2) = true by rw [hst]; decide, decide_eq_false hu, Bool.true_and, if_neg (fun h => hu h.2)]
        clear hst h hu
        go_enter Try.func13, Try.ntmps13
        go_wp2_with (fail)
        refine HL.out.mono ?_
        rintro e wq ⟨rfl, hq⟩
        subst hq
        go_wp2_with (fail)
        refine HP.out.mono ?_
        rintro e wq2 ⟨rfl, hq⟩
        subst hq
        go_wp2_with (fail)
        go_ret3
        exact ⟨rfl, HH1.out, HO1.out⟩
    · rw [hst] at c8
      rw [show passB s at_ = false by unfold passB; rw [hst]; simp] at HP ⊢
      rw [show decide (s.st = 2) = false by rw [hst]; decide, Bool.false_and, if_neg (by rw [hst]; simp)]
      clear hst h
      go_enter Try.func13, Try.ntmps13
      go_wp2_with (fail)
      refine HL.out.mono ?_
      rintro e wq ⟨rfl, hq⟩
      subst hq
      go_wp2_with (fail)
      refine HP.out.mono ?_
      rintro e wq2 ⟨rfl, hq⟩
      subst hq
      go_wp2_with (fail)
      go_ret3
      exact ⟨rfl, HH1.out, HO1.out⟩
  · have HH := Lib.hid h
    unfold enterA enterP enterS
    rw [if_neg hE, decide_eq_false hE, Bool.false_and, Bool.false_and]
    generalize lookW s.la at_ = E at *
    have hne : (E != 0) = true := by simpa using hE
    clear hE h
    go_enter Try.func13, Try.ntmps13
    go_wp2_with (fail)
    refine HL.out.mono ?_
    rintro e wq ⟨rfl, hq⟩
    subst hq
    go_wp2_with (fail)
    go_ret3
    exact ⟨rfl, HH.out, Off.ofBelow (Below.refl _ _)⟩
/-- Who gives up. -/
def giveE (s : BrS) (at_ : Int) : Int := if lookW s.la at_ ≠ 0 then lookW s.la at_ else if s.st = 3 then 0 else 4
def giveS (s : BrS) (at_ : Int) : BrS := if giveE s at_ = 0 then { s with la := at_, st := 2 } else s
set_option maxHeartbeats 1600000 in
theorem bgive_any {w : World} {q p m : Nat} {r : BreakS} {s : BrS} (h : BrAt w q p m r s) (at_ : Int) :
    Calls Try.prog 22 #[.pointer (some ⟨q, 0, none⟩), .int .i64 at_] w fun e w' => e = .returned (.int .i64 (giveE s at_)) ∧ BrAt w' q p m r (giveS s at_) ∧ Off (fun i => i = q) w w' := by
  have HL := Lib.hid (blook_any h at_)
  have HH := Lib.hid h
  have c8 := h.cells.c8
  unfold giveS
  by_cases hE : lookW s.la at_ = 0
  · by_cases hst : s.st = 3
    · rw [show giveE s at_ = 0 by unfold giveE; rw [if_neg (by simp [hE]), if_pos hst], if_pos rfl]
      obtain ⟨a0, a1, a2⟩ := lookW_ok hE
      have h1 := h.set (s' := { s with la := at_ }) 11 (.int .i64 at_) rfl rfl rfl (by have := h.wl; show s.wl ≤ at_; omega) a0 a1 h.st
      have h2 := h1.set (s' := { s with la := at_, st := 2 }) 8 (.int .u8 2) rfl rfl rfl h1.wl a0 a1 (Or.inr (Or.inl rfl))
      have HH2 := Lib.hid h2
      have HO2 := Lib.hid (((Off.ofBelow (S := fun i => i = q) (Below.refl _ w)).setCell (p := ⟨q, 11, none⟩) (fun _ => rfl) (.int .i64 at_)).setCell (p := ⟨q, 8, none⟩) (fun _ => rfl) (.int .u8 2))
      have c11 := h.cells.c11
      have f11 := br_frozen h 11
      have d8 := h1.cells.c8
      have f8 := br_frozen h1 8
      dsimp only at d8
      rw [hst] at c8 d8
      rw [hE] at HL
      clear h1 h2 hE a0 a1 a2 hst h
      go_enter Try.func22, Try.ntmps22
      go_wp2_with (fail)
      refine HL.out.mono ?_
      rintro e wq ⟨rfl, hq⟩
      subst hq
      go_wp2_with (fail)
      go_ret
      exact ⟨rfl, HH2.out, HO2.out⟩
    · rw [show giveE s at_ = 4 by unfold giveE; rw [if_neg (by simp [hE]), if_neg hst], if_neg (by decide)]
      have hne : (s.st != 3) = true := by simpa using hst
      generalize s.st = T at *
      rw [hE] at HL
      clear hE hst h
      go_enter Try.func22, Try.ntmps22
      go_wp2_with (fail)
      refine HL.out.mono ?_
      rintro e wq ⟨rfl, hq⟩
      subst hq
      go_wp2_with (fail)
      go_ret
      exact ⟨rfl, HH.out, Off.ofBelow (Below.refl _ _)⟩
  · rw [show giveE s at_ = lookW s.la at_ by unfold giveE; rw [if_pos hE], if_neg hE]
    generalize lookW s.la at_ = E at *
    have hne : (E != 0) = true := by simpa using hE
    clear hE h
    go_enter Try.func22, Try.ntmps22
    go_wp2_with (fail)
    refine HL.out.mono ?_
    rintro e wq ⟨rfl, hq⟩
    subst hq
    go_wp2_with (fail)
    go_ret
    exact ⟨rfl, HH.out, Off.ofBelow (Below.refl _ _)⟩
theorem bstate_any {w : World} {q p m : Nat} {r : BreakS} {s : BrS} (h : BrAt w q p m r s) : Calls Try.prog 14 #[.pointer (some ⟨q, 0, none⟩)] w fun e w' => e = .returned (.int .u8 s.st) ∧ w' = w := by
  have c8 := h.cells.c8
  clear h
  go_enter Try.func14, Try.ntmps14
  go_wp2_with (fail)
  go_ret
  exact ⟨rfl, rfl⟩
theorem btrips_any {w : World} {q p m : Nat} {r : BreakS} {s : BrS} (h : BrAt w q p m r s) : Calls Try.prog 15 #[.pointer (some ⟨q, 0, none⟩)] w fun e w' => e = .returned (.int .i64 s.tr) ∧ w' = w := by
  have c10 := h.cells.c10
  clear h
  go_enter Try.func15, Try.ntmps15
  go_wp2_with (fail)
  go_ret
  exact ⟨rfl, rfl⟩
def untilN (s : BrS) : Int := if s.st = 1 then 0 else s.un
theorem buntil_any {w : World} {q p m : Nat} {r : BreakS} {s : BrS} (h : BrAt w q p m r s) : Calls Try.prog 11 #[.pointer (some ⟨q, 0, none⟩)] w fun e w' => e = .returned (.tuple #[.int .i64 (untilN s), .bool (decide (s.st ≠ 1))]) ∧ w' = w := by
  have c8 := h.cells.c8
  have c9 := h.cells.c9
  clear h
  unfold untilN
  generalize s.st = T at *
  generalize s.un = U at *
  by_cases h1 : T = 1
  · subst h1
    rw [if_pos rfl, show decide ((1 : Int) ≠ 1) = false from rfl]
    go_enter Try.func11, Try.ntmps11
    go_wp2_with (fail)
    go_ret2
    exact ⟨rfl, rfl⟩
  · rw [if_neg h1, show decide (T ≠ 1) = true by simp [h1]]
    have n1 : (T == 1) = false := by simpa using h1
    clear h1
    go_enter Try.func11, Try.ntmps11
    go_wp2_with (fail)
    go_ret2
    exact ⟨rfl, rfl⟩
end Go.Proofs.Ytlipbkpbflgamaa

/- breaker: an entry is over. -/
namespace Go.Proofs.Ytlipbkpbflgamaa
open Go.RowKit
set_option linter.unusedVariables false
set_option linter.unusedSimpArgs false

def bdoneE (s : BrS) (at_ rt : Int) (probe : Bool) : Int :=
  if lookW s.la at_ = 2 ∨ isT rt = false then 2 else if lookW s.la at_ ≠ 0 then lookW s.la at_ else if probe = true ∧ s.st ≠ 3 then 4 else 0
def endC (bad : Bool) : CntS := ⟨0, 0, 1, if bad then 1 else 0, 0, 0⟩
theorem endC_right (bad : Bool) : RightC (endC bad) := by
  cases bad <;> constructor <;> simp [endC]
def addS (s : BrS) (at_ : Int) (bad : Bool) : BrS := { s with la := at_, wl := at_, notes := s.notes ++ newW at_ [endC bad] }
def bdoneS (r : BreakS) (s : BrS) (at_ rt : Int) (failed probe : Bool) : BrS :=
  if bdoneE s at_ rt probe = 0 then
    if probe then (if badB r rt failed then openS r { s with la := at_ } at_ else { s with la := at_, st := 1, wl := 0, notes := [] })
    else if s.st = 1 then (if overB r (winC r.win 1 at_ (s.notes ++ newW at_ [endC (badB r rt failed)])) then openS r (addS s at_ (badB r rt failed)) at_ else addS s at_ (badB r rt failed))
    else { s with la := at_ }
  else s
structure DoneB (w : World) (q p m : Nat) (r : BreakS) (s : BrS) (at_ rt : Int) (failed probe : Bool) (e : Ending) (w' : World) : Prop where
  e : e = .returned (.int .i64 (bdoneE s at_ rt probe))
  at' : ∃ p' m', BrAt w' q p' m' r (bdoneS r s at_ rt failed probe) ∧ Off (BOwn q p m) w w' ∧ ((p' = p ∧ m' = m) ∨ (w.heap.size ≤ p' ∧ w.heap.size ≤ m'))
theorem DoneB.no {w : World} {q p m : Nat} {r : BreakS} {s : BrS} {at_ rt : Int} {failed probe : Bool} {e : Ending} (h : BrAt w q p m r s) {x : Int} (hE : bdoneE s at_ rt probe = x) (hx : x ≠ 0) (he : e = .returned (.int .i64 x)) : DoneB w q p m r s at_ rt failed probe e w :=
  ⟨by rw [hE]; exact he, p, m, by unfold bdoneS; rw [if_neg (by rw [hE]; exact hx)]; exact h, Off.ofBelow (Below.refl _ _), Or.inl ⟨rfl, rfl⟩⟩
theorem isT_lo {rt : Int} (h : rt < 0) : isT rt = false := by unfold isT; rw [decide_eq_false (by omega)]; rfl
theorem isT_hi {rt : Int} (h : 1152921504606846976 < rt) : isT rt = false := by unfold isT; rw [decide_eq_false (p := rt ≤ _) (by omega), Bool.and_false]
theorem isT_ok {rt : Int} (h0 : ¬ rt < 0) (h1 : ¬ 1152921504606846976 < rt) : isT rt = true := by unfold isT; rw [decide_eq_true (by omega), decide_eq_true (by omega)]; rfl

set_option maxHeartbeats 6400000 in
set_option maxRecDepth 100000 in
theorem bdone_any {w : World} {q p m : Nat} {r : BreakS} {s : BrS} (h : BrAt w q p m r s) (at_ rt : Int) (failed probe : Bool) :
    Calls Try.prog 10 #[.pointer (some ⟨q, 0, none⟩), .int .i64 at_, .int .i64 rt, .bool failed, .bool probe] w (DoneB w q p m r s at_ rt failed probe) := by
  have HL := Lib.hid (blook_any h at_)
  have HH := Lib.hid h
  rcases lookW_cases s.la at_ with hE | hE | hE
  · by_cases hr0 : rt < 0
    · have HC := Lib.hid (show bdoneE s at_ rt probe = 2 by unfold bdoneE; rw [if_pos (Or.inr (isT_lo hr0))])
      rw [hE] at HL
      clear hE h
      go_enter Try.func10, Try.ntmps10
      go_wp2_with (fail)
      refine HL.out.mono ?_
      rintro e wq ⟨rfl, hq⟩
      have hq := hq.symm
      subst hq
      go_wp2_with (fail)
      go_ret
      exact DoneB.no HH.out HC.out (by decide) rfl
    · by_cases hr1 : 1152921504606846976 < rt
      · have HC := Lib.hid (show bdoneE s at_ rt probe = 2 by unfold bdoneE; rw [if_pos (Or.inr (isT_hi hr1))])
        rw [hE] at HL
        clear hE h
        go_enter Try.func10, Try.ntmps10
        go_wp2_with (fail)
        refine HL.out.mono ?_
        rintro e wq ⟨rfl, hq⟩
        have hq := hq.symm
        subst hq
        go_wp2_with (fail)
        go_ret
        exact DoneB.no HH.out HC.out (by decide) rfl
      · have HLW := Lib.hid hE
        have HRT := Lib.hid (isT_ok hr0 hr1)
        obtain ⟨a0, a1, a2⟩ := lookW_ok hE
        have h1 := h.set (s' := { s with la := at_ }) 11 (.int .i64 at_) rfl rfl rfl (by have := h.wl; show s.wl ≤ at_; omega) a0 a1 h.st
        have HO1 := Lib.hid ((Off.ofBelow (S := fun i => i = q) (Below.refl _ w)).setCell (p := ⟨q, 11, none⟩) (fun _ => rfl) (.int .i64 at_))
        have HH1 := Lib.hid h1
        have c8 := h.cells.c8
        have c11 := h.cells.c11
        have f11 := br_frozen h 11
        have HBAD := Lib.hid (bbad_any h1.cells rt failed)
        obtain ⟨B, hB⟩ : ∃ B, badB r rt failed = B := ⟨_, rfl⟩
        rw [hB] at HBAD
        have HBB := Lib.hid hB
        rw [hE] at HL
        cases probe with
        | true =>
          by_cases hst : s.st = 3
          · have HC := Lib.hid (show bdoneE s at_ rt true = 0 by unfold bdoneE; rw [if_neg (by rw [HLW.out, HRT.out]; simp), if_neg (by rw [HLW.out]; simp), if_neg (by simp [hst])])
            rw [hst] at c8
            cases B with
            | true =>
              have HOP := Lib.hid (bopen_any h1 at_ a0 a1)
              clear h h1 hE hB hst a0 a1 a2
              go_enter Try.func10, Try.ntmps10
              go_wp2_with (fail)
              refine HL.out.mono ?_
              rintro e wq ⟨rfl, hq⟩
              have hq := hq.symm
              subst hq
              go_wp2_with (fail)
              refine HBAD.out.mono ?_
              rintro e wq ⟨rfl, hq⟩
              subst hq
              go_wp2_with (fail)
              refine HOP.out.mono ?_
              rintro e w2 ⟨rfl, hh2, ho2⟩
              have HH2 := Lib.hid hh2
              have HO2 := Lib.hid ho2
              clear hh2 ho2
              go_wp2_with (fail)
              go_ret
              exact ⟨by rw [HC.out]; rfl, p, m, by unfold bdoneS; rw [if_pos HC.out, if_pos rfl, if_pos HBB.out]; exact HH2.out, (off_q HO1.out).trans (off_q HO2.out) (fun _ _ h => h), Or.inl ⟨rfl, rfl⟩⟩
            | false =>
              have h2 := h1.set (s' := { s with la := at_, st := 1 }) 8 (.int .u8 1) rfl rfl rfl h1.wl a0 a1 (Or.inl rfl)
              have HO2 := Lib.hid (HO1.out.setCell (p := ⟨q, 8, none⟩) (fun _ => rfl) (.int .u8 1))
              have d8 := h1.cells.c8
              have f8 := br_frozen h1 8
              have HCL := Lib.hid (bclear_any (pv := .pointer (some ⟨p, 0, none⟩)) (s := { s with la := at_, st := 1 }) h2.head h.ok)
              have HQ2 := Lib.hid (h2.lt (Or.inl rfl))
              have HA0 := Lib.hid a0
              have HA1 := Lib.hid a1
              have HSZ := Lib.hid (show w.heap.size ≤ ((w.setCell ⟨q, 11, none⟩ (.int .i64 at_)).setCell ⟨q, 8, none⟩ (.int .u8 1)).heap.size from HO2.out.size)
              clear h h1 h2 hE hB hst a0 a1 a2
              go_enter Try.func10, Try.ntmps10
              go_wp2_with (fail)
              refine HL.out.mono ?_
              rintro e wq ⟨rfl, hq⟩
              have hq := hq.symm
              subst hq
              go_wp2_with (fail)
              refine HBAD.out.mono ?_
              rintro e wq ⟨rfl, hq⟩
              subst hq
              go_wp2_with (fail)
              refine HCL.out.mono ?_
              rintro e w3 ⟨rfl, hh3, hw3, ho3⟩
              have HH3 := Lib.hid hh3
              have HW3 := Lib.hid hw3
              have HO3 := Lib.hid ho3
              clear hh3 hw3 ho3
              go_wp2_with (fail)
              go_ret
              exact ⟨by rw [HC.out]; rfl, _, _, by
                unfold bdoneS
                rw [if_pos HC.out, if_pos rfl, if_neg (by rw [HBB.out]; simp)]
                exact ⟨HH3.out, HW3.out, (by have := HQ2.out; omega), (by have := HQ2.out; omega), HA0.out, HA0.out, HA1.out, Or.inl rfl, HH.out.ok⟩, (off_q HO2.out).trans (off_q HO3.out) (fun _ _ h => h), Or.inr ⟨by have := HSZ.out; omega, HSZ.out⟩⟩
          · have HC := Lib.hid (show bdoneE s at_ rt true = 4 by unfold bdoneE; rw [if_neg (by rw [HLW.out, HRT.out]; simp), if_neg (by rw [HLW.out]; simp), if_pos ⟨rfl, hst⟩])
            have hne : (s.st != 3) = true := by simpa using hst
            clear h1 h hE hB hst a0 a1 a2
            generalize hT : s.st = T at c8 hne
            clear hT
            go_enter Try.func10, Try.ntmps10
            go_wp2_with (fail)
            refine HL.out.mono ?_
            rintro e wq ⟨rfl, hq⟩
            have hq := hq.symm
            subst hq
            go_wp2_with (fail)
            go_ret
            exact DoneB.no HH.out HC.out (by decide) rfl
        | false =>
          have HC := Lib.hid (show bdoneE s at_ rt false = 0 by unfold bdoneE; rw [if_neg (by rw [HLW.out, HRT.out]; simp), if_neg (by rw [HLW.out]; simp), if_neg (by simp)])
          have d7 := h1.cells.c7
          have d8 := h1.cells.c8
          dsimp only at d8
          by_cases hst : s.st = 1
          · rw [hst] at c8 d8
            have HST := Lib.hid hst
            have HA0 := Lib.hid a0
            have HA1 := Lib.hid a1
            have HWL := Lib.hid (show lookW s.wl at_ = 0 by have h8 := h.wl; unfold lookW; rw [if_neg (by omega), if_neg (by omega)])
            have HLA := Lib.hid (show lookW at_ at_ = 0 by unfold lookW; rw [if_neg (by omega), if_neg (by omega)])
            clear h h1 hE hB hst a0 a1 a2
            cases B with
            | true =>
              have hsz1 : (w.setCell ⟨q, 11, none⟩ (.int .i64 at_)).heap.size = w.heap.size := by simp [World.setCell]
              have HNEW := Lib.hid (show ((w.setCell ⟨q, 11, none⟩ (.int .i64 at_)).alloc (.cells #[.int .i64 0, .int .i64 0, .int .i64 1, .int .i64 1, .int .i64 0, .int .i64 0] 71)).heap[w.heap.size]? = some (.cells #[.int .i64 0, .int .i64 0, .int .i64 1, .int .i64 1, .int .i64 0, .int .i64 0] 71) by rw [← hsz1]; exact (get_allocW _ _ _).trans (if_pos rfl))
              have HBEL := Lib.hid (show Below (w.setCell ⟨q, 11, none⟩ (.int .i64 at_)).heap.size (w.setCell ⟨q, 11, none⟩ (.int .i64 at_)) ((w.setCell ⟨q, 11, none⟩ (.int .i64 at_)).alloc (.cells #[.int .i64 0, .int .i64 0, .int .i64 1, .int .i64 1, .int .i64 0, .int .i64 0] 71)) from (Below.refl _ _).alloc (Nat.le_refl _) _)
              have HSZ := Lib.hid (show ((w.setCell ⟨q, 11, none⟩ (.int .i64 at_)).alloc (.cells #[.int .i64 0, .int .i64 0, .int .i64 1, .int .i64 1, .int .i64 0, .int .i64 0] 71)).heap.size = w.heap.size + 1 by simp [World.setCell])
              have HS1 := Lib.hid hsz1
              clear hsz1
              go_enter Try.func10, Try.ntmps10
              go_wp2_with (fail)
              refine HL.out.mono ?_
              rintro e wq ⟨rfl, hq⟩
              have hq := hq.symm
              subst hq
              go_wp2_with (fail)
              refine HBAD.out.mono ?_
              rintro e wq ⟨rfl, hq⟩
              subst hq
              go_wp2_with (fail)
              obtain ⟨w3, hw3⟩ : ∃ w3, ((w.setCell ⟨q, 11, none⟩ (.int .i64 at_)).alloc (.cells #[.int .i64 0, .int .i64 0, .int .i64 1, .int .i64 1, .int .i64 0, .int .i64 0] 71)) = w3 := ⟨_, rfl⟩
              rw [hw3] at HNEW HBEL HSZ ⊢
              clear hw3
              obtain ⟨w1, hw1⟩ : ∃ w1, (w.setCell ⟨q, 11, none⟩ (.int .i64 at_)) = w1 := ⟨_, rfl⟩
              rw [hw1] at HBEL HS1 HH1 HO1 d7
              clear hw1
              have HW3 := Lib.hid (HH1.out.win.below HBEL.out)
              have HP3 := Lib.hid ((HBEL.out.cell (p := ⟨q, 7, none⟩) (HH1.out.lt (Or.inl rfl))).trans d7)
              obtain ⟨⟨z0, z1, z2, z3, z4, z5⟩, zf⟩ := ct_cells (c := ⟨0, 0, 1, 1, 0, 0⟩) HNEW.out
              dsimp only at z0 z1 z2 z3 z4 z5
              have HSB := Lib.hid (show ∀ wx, Off (fun i => i = p ∨ i = m) w3 wx → (fun wx => Off (fun i => i = p ∨ i = m) w3 wx ∧ wx.cell? ⟨q, 7, none⟩ = some (.pointer (some ⟨p, 0, none⟩)) ∧ wx.cell? ⟨w.heap.size, 0, none⟩ = some (.int .i64 0) ∧ wx.cell? ⟨w.heap.size, 1, none⟩ = some (.int .i64 0) ∧ wx.cell? ⟨w.heap.size, 2, none⟩ = some (.int .i64 1) ∧ wx.cell? ⟨w.heap.size, 3, none⟩ = some (.int .i64 1) ∧ wx.cell? ⟨w.heap.size, 4, none⟩ = some (.int .i64 0) ∧ wx.cell? ⟨w.heap.size, 5, none⟩ = some (.int .i64 0)) wx from fun wx hb => by
                have hlp := HH1.out.lt (i := p) (Or.inr (Or.inl rfl))
                have hlm := HH1.out.lt (i := m) (Or.inr (Or.inr rfl))
                have hlq := HH1.out.lt (i := q) (Or.inl rfl)
                rw [HS1.out] at hlp hlm hlq
                have hz := HSZ.out
                obtain ⟨⟨y0, y1, y2, y3, y4, y5⟩, yf⟩ := ct_cells (c := ⟨0, 0, 1, 1, 0, 0⟩) ((hb.block w.heap.size (by omega) (by omega)).trans HNEW.out)
                exact ⟨hb, (World.cell?_of_block (a := ⟨q, 7, none⟩) (hb.block q (by omega) (fun h => by rcases h with h | h; exact HH.out.qp h; exact HH.out.qm h))).trans HP3.out, y0, y1, y2, y3, y4, y5⟩)
              have HADD := Lib.hid (fun (wx : World) (hb : Below w3.heap.size w3 wx) => wAddN_any ((HW3.out.below hb).below ((Below.refl wx.heap.size wx).alloc (Nat.le_refl _) (ctO (endC true) 71))) at_ HWL.out (some ⟨wx.heap.size, 0, none⟩) 1 1 [endC true] rfl (by omega) (fun e => by cases e) (cts_one (w := wx) (endC true)) (fun c hc => by obtain rfl := List.mem_singleton.1 hc; exact endC_right _) (fun g off e => by
                cases e
                have h1 := HW3.out.lt
                have h2 := hb.size
                omega))
              unfold ctO endC at HADD
              simp only [if_true, Bool.false_eq_true, if_false] at HADD
              clear z0 z1 z2 z3 z4 z5 zf d7 d8 c8 c11
              refine wp_region_noPanic ?_
              refine wp_region_held_drew (S := fun wx => Off (fun i => i = p ∨ i = m) w3 wx ∧ wx.cell? ⟨q, 7, none⟩ = some (.pointer (some ⟨p, 0, none⟩)) ∧ wx.cell? ⟨w.heap.size, 0, none⟩ = some (.int .i64 0) ∧ wx.cell? ⟨w.heap.size, 1, none⟩ = some (.int .i64 0) ∧ wx.cell? ⟨w.heap.size, 2, none⟩ = some (.int .i64 1) ∧ wx.cell? ⟨w.heap.size, 3, none⟩ = some (.int .i64 1) ∧ wx.cell? ⟨w.heap.size, 4, none⟩ = some (.int .i64 0) ∧ wx.cell? ⟨w.heap.size, 5, none⟩ = some (.int .i64 0)) (by kernel_rfl) ?_ (fun hHeld => ?_)
              · exact HSB.out _ (Off.ofBelow (Below.refl _ _).drew)
              refine wpAnyH_take (i := 0) (v := ?_) rfl (by kernel_rfl) (by kernel_rfl) (by kernel_rfl) (fun _ _ _ h => h) (Or.inl ⟨by rfl, ?hy⟩) (by assumption) ?_
              case hy => intro w hSw; (try dsimp only at hSw); go_simp; try with_reducible rfl
              try simp only [Act.put, List.getElem_toArray, List.getElem_cons_succ, List.getElem_cons_zero, List.setIfInBounds_toArray, List.set_cons_zero, List.set_cons_succ]
              refine wpAnyH_take (i := 1) (v := ?_) rfl (by kernel_rfl) (by kernel_rfl) (by kernel_rfl) (fun _ _ _ h => h) (Or.inl ⟨by rfl, ?hy⟩) (by assumption) ?_
              case hy => intro w hSw; (try dsimp only at hSw); go_simp; try with_reducible rfl
              try simp only [Act.put, List.getElem_toArray, List.getElem_cons_succ, List.getElem_cons_zero, List.setIfInBounds_toArray, List.set_cons_zero, List.set_cons_succ]
              refine wpAnyH_take (i := 2) (v := ?_) rfl (by kernel_rfl) (by kernel_rfl) (by kernel_rfl) (fun _ _ _ h => h) (Or.inl ⟨by rfl, ?hy⟩) (by assumption) ?_
              case hy => intro w hSw; (try dsimp only at hSw); go_simp; try with_reducible rfl
              try simp only [Act.put, List.getElem_toArray, List.getElem_cons_succ, List.getElem_cons_zero, List.setIfInBounds_toArray, List.set_cons_zero, List.set_cons_succ]
              refine wpAnyH_take (i := 3) (v := ?_) rfl (by kernel_rfl) (by kernel_rfl) (by kernel_rfl) (fun _ _ _ h => h) (Or.inl ⟨by rfl, ?hy⟩) (by assumption) ?_
              case hy => intro w hSw; (try dsimp only at hSw); go_simp; try with_reducible rfl
              try simp only [Act.put, List.getElem_toArray, List.getElem_cons_succ, List.getElem_cons_zero, List.setIfInBounds_toArray, List.set_cons_zero, List.set_cons_succ]
              refine wpAnyH_take (i := 4) (v := ?_) rfl (by kernel_rfl) (by kernel_rfl) (by kernel_rfl) (fun _ _ _ h => h) (Or.inl ⟨by rfl, ?hy⟩) (by assumption) ?_
              case hy => intro w hSw; (try dsimp only at hSw); go_simp; try with_reducible rfl
              try simp only [Act.put, List.getElem_toArray, List.getElem_cons_succ, List.getElem_cons_zero, List.setIfInBounds_toArray, List.set_cons_zero, List.set_cons_succ]
              refine wpAnyH_take (i := 5) (v := ?_) rfl (by kernel_rfl) (by kernel_rfl) (by kernel_rfl) (fun _ _ _ h => h) (Or.inl ⟨by rfl, ?hy⟩) (by assumption) ?_
              case hy => intro w hSw; (try dsimp only at hSw); go_simp; try with_reducible rfl
              try simp only [Act.put, List.getElem_toArray, List.getElem_cons_succ, List.getElem_cons_zero, List.setIfInBounds_toArray, List.set_cons_zero, List.set_cons_succ]
              refine wpAnyH_ready (rs := [6]) (by kernel_rfl) (by simp) (AllReadyH.cons rfl (fun K hK => ?_) AllReadyH.nil)
              go_simp
              have HD3 := Lib.hid (show Below w3.heap.size w3 w3.drew from (Below.refl _ _).drew)
              try (go_wp2_with fail)
              refine hK.out _ _ ?_ (fun hHeld => ?_)
              · exact HSB.out _ (Off.ofBelow (HD3.out.alloc HD3.out.size _))
              clear hK K
              try simp only [Act.put, List.getElem_toArray, List.getElem_cons_succ, List.getElem_cons_zero, List.setIfInBounds_toArray, List.set_cons_zero, List.set_cons_succ]
              refine wpAnyH_ready (rs := [7]) (by kernel_rfl) (by simp) (AllReadyH.cons rfl (fun K hK => ?_) AllReadyH.nil)
              go_simp
              refine (HADD.out _ HD3.out).mono ?_
              rintro e w5 ⟨rfl, hw5, ho5⟩
              have hoo : Off (fun i => i = p ∨ i = m) w3 w5 := (Off.ofBelow (S := fun i => i = p ∨ i = m) (HD3.out.alloc HD3.out.size _)).trans ho5 (fun _ _ h => h)
              have HW5 := Lib.hid hw5
              have HB5 := Lib.hid hoo
              have HO5 := Lib.hid (show Off (BOwn q p m) w w5 from ((off_q HO1.out).trans (Off.ofBelow (S := BOwn q p m) HBEL.out) (fun _ _ h => h)).trans (hoo.mono (S' := BOwn q p m) (fun i _ h => Or.inr h)) (fun _ _ h => h))
              have HAT5 := Lib.hid (show BrAt w5 q p m r (addS s at_ true) from ⟨(hoo.block q (by have := HH1.out.lt (i := q) (Or.inl rfl); rw [HS1.out] at this; rw [HSZ.out]; omega) (fun h => by rcases h with h | h; exact HH.out.qp h; exact HH.out.qm h)).trans ((HBEL.out.block q (HH1.out.lt (Or.inl rfl))).trans HH1.out.head), hw5, HH.out.qp, HH.out.qm, Int.le_refl _, HA0.out, HA1.out, Or.inl HST.out, HH.out.ok⟩)
              clear hw5 ho5 hoo HADD
              try (go_wp2_with fail)
              refine hK.out _ _ ?_ (fun hHeld => ?_)
              · exact HSB.out _ HB5.out
              clear hK K
              try simp only [Act.put, List.getElem_toArray, List.getElem_cons_succ, List.getElem_cons_zero, List.setIfInBounds_toArray, List.set_cons_zero, List.set_cons_succ]
              refine wpAnyH_done (by kernel_rfl) ?_ _
              refine NoPanic.normal ?_
              go_wp2_with (fail)
              have HS := Lib.hid (wSumN_any HW5.out at_ HLA.out)
              rw [Int.ediv_one] at HS
              have hCR : RightC (winC r.win 1 at_ (s.notes ++ newW at_ [endC true])) := winC_right HW5.out.right.1 at_
              have h7 := HAT5.out.cells.c7
              obtain ⟨C, hC⟩ : ∃ C, winC r.win 1 at_ (s.notes ++ newW at_ [endC true]) = C := ⟨_, rfl⟩
              rw [show newW at_ [(⟨0, 0, 1, 1, 0, 0⟩ : CntS)] = newW at_ [endC true] from rfl, hC] at HS
              rw [hC] at hCR
              have HCR := Lib.hid hCR
              have HCC := Lib.hid hC
              clear hC hCR
              obtain ⟨xp, xb, xd, xe, xr, xm⟩ := C
              unfold ctV at HS
              dsimp only at HS
              go_wp2_with (fail)
              refine HS.out.mono ?_
              rintro e w6 ⟨rfl, h6⟩
              have hb7 : Below w6.heap.size w6 (w6.alloc (ctO ⟨xp, xb, xd, xe, xr, xm⟩ 71)) := (Below.refl _ _).alloc (Nat.le_refl _) _
              have h7' := h6.trans (hb7.mono h6.size)
              have HAT7 := Lib.hid (HAT5.out.below h7')
              have HO7 := Lib.hid (HO5.out.trans (Off.ofBelow (S := BOwn q p m) h7') (fun _ _ h => h))
              have HOV := Lib.hid (bover_any HAT7.out ⟨xp, xb, xd, xe, xr, xm⟩ HCR.out)
              obtain ⟨⟨t0, t1, t2, t3, t4, t5⟩, tf⟩ := ct_cells (c := ⟨xp, xb, xd, xe, xr, xm⟩) ((get_allocW w6 (ctO ⟨xp, xb, xd, xe, xr, xm⟩ 71) w6.heap.size).trans (if_pos rfl))
              clear hb7 h7' h6 h7 HS HAT5 HO5 tf
              unfold ctO at HAT7 HO7 HOV t0 t1 t2 t3 t4 t5
              unfold ctV at HOV
              dsimp only at HAT7 HO7 HOV t0 t1 t2 t3 t4 t5
              obtain ⟨OV, hOV⟩ : ∃ OV, overB r ⟨xp, xb, xd, xe, xr, xm⟩ = OV := ⟨_, rfl⟩
              rw [hOV] at HOV
              have HOO := Lib.hid hOV
              clear hOV
              go_wp2_with (fail)
              refine HOV.out.mono ?_
              rintro e w8 ⟨rfl, h8⟩
              have HAT8 := Lib.hid (HAT7.out.below h8)
              have HO8 := Lib.hid (HO7.out.trans (Off.ofBelow (S := BOwn q p m) h8) (fun _ _ h => h))
              clear h8 HOV HAT7 HO7 t0 t1 t2 t3 t4 t5
              cases OV with
              | true =>
                have HOP := Lib.hid (bopen_any HAT8.out at_ HA0.out HA1.out)
                go_wp2_with (fail)
                refine HOP.out.mono ?_
                rintro e w9 ⟨rfl, hh9, ho9⟩
                have HH9 := Lib.hid hh9
                have HO9 := Lib.hid ho9
                clear hh9 ho9
                go_wp2_with (fail)
                go_ret
                exact ⟨by rw [HC.out]; rfl, p, m, by unfold bdoneS; rw [if_pos HC.out, if_neg (by simp), if_pos HST.out, HBB.out, HCC.out, HOO.out, if_pos rfl]; exact HH9.out, HO8.out.trans (off_q HO9.out) (fun _ _ h => h), Or.inl ⟨rfl, rfl⟩⟩
              | false =>
                go_wp2_with (fail)
                go_ret
                exact ⟨by rw [HC.out]; rfl, p, m, by unfold bdoneS; rw [if_pos HC.out, if_neg (by simp), if_pos HST.out, HBB.out, HCC.out, HOO.out, if_neg (by simp)]; exact HAT8.out, HO8.out, Or.inl ⟨rfl, rfl⟩⟩
            | false =>
              have hsz1 : (w.setCell ⟨q, 11, none⟩ (.int .i64 at_)).heap.size = w.heap.size := by simp [World.setCell]
              have HNEW := Lib.hid (show ((w.setCell ⟨q, 11, none⟩ (.int .i64 at_)).alloc (.cells #[.int .i64 0, .int .i64 0, .int .i64 1, .int .i64 0, .int .i64 0, .int .i64 0] 71)).heap[w.heap.size]? = some (.cells #[.int .i64 0, .int .i64 0, .int .i64 1, .int .i64 0, .int .i64 0, .int .i64 0] 71) by rw [← hsz1]; exact (get_allocW _ _ _).trans (if_pos rfl))
              have HBEL := Lib.hid (show Below (w.setCell ⟨q, 11, none⟩ (.int .i64 at_)).heap.size (w.setCell ⟨q, 11, none⟩ (.int .i64 at_)) ((w.setCell ⟨q, 11, none⟩ (.int .i64 at_)).alloc (.cells #[.int .i64 0, .int .i64 0, .int .i64 1, .int .i64 0, .int .i64 0, .int .i64 0] 71)) from (Below.refl _ _).alloc (Nat.le_refl _) _)
              have HSZ := Lib.hid (show ((w.setCell ⟨q, 11, none⟩ (.int .i64 at_)).alloc (.cells #[.int .i64 0, .int .i64 0, .int .i64 1, .int .i64 0, .int .i64 0, .int .i64 0] 71)).heap.size = w.heap.size + 1 by simp [World.setCell])
              have HS1 := Lib.hid hsz1
              clear hsz1
              go_enter Try.func10, Try.ntmps10
              go_wp2_with (fail)
              refine HL.out.mono ?_
              rintro e wq ⟨rfl, hq⟩
              have hq := hq.symm
              subst hq
              go_wp2_with (fail)
              refine HBAD.out.mono ?_
              rintro e wq ⟨rfl, hq⟩
              subst hq
              go_wp2_with (fail)
              obtain ⟨w3, hw3⟩ : ∃ w3, ((w.setCell ⟨q, 11, none⟩ (.int .i64 at_)).alloc (.cells #[.int .i64 0, .int .i64 0, .int .i64 1, .int .i64 0, .int .i64 0, .int .i64 0] 71)) = w3 := ⟨_, rfl⟩
              rw [hw3] at HNEW HBEL HSZ ⊢
              clear hw3
              obtain ⟨w1, hw1⟩ : ∃ w1, (w.setCell ⟨q, 11, none⟩ (.int .i64 at_)) = w1 := ⟨_, rfl⟩
              rw [hw1] at HBEL HS1 HH1 HO1 d7
              clear hw1
              have HW3 := Lib.hid (HH1.out.win.below HBEL.out)
              have HP3 := Lib.hid ((HBEL.out.cell (p := ⟨q, 7, none⟩) (HH1.out.lt (Or.inl rfl))).trans d7)
              obtain ⟨⟨z0, z1, z2, z3, z4, z5⟩, zf⟩ := ct_cells (c := ⟨0, 0, 1, 0, 0, 0⟩) HNEW.out
              dsimp only at z0 z1 z2 z3 z4 z5
              have HSB := Lib.hid (show ∀ wx, Off (fun i => i = p ∨ i = m) w3 wx → (fun wx => Off (fun i => i = p ∨ i = m) w3 wx ∧ wx.cell? ⟨q, 7, none⟩ = some (.pointer (some ⟨p, 0, none⟩)) ∧ wx.cell? ⟨w.heap.size, 0, none⟩ = some (.int .i64 0) ∧ wx.cell? ⟨w.heap.size, 1, none⟩ = some (.int .i64 0) ∧ wx.cell? ⟨w.heap.size, 2, none⟩ = some (.int .i64 1) ∧ wx.cell? ⟨w.heap.size, 3, none⟩ = some (.int .i64 0) ∧ wx.cell? ⟨w.heap.size, 4, none⟩ = some (.int .i64 0) ∧ wx.cell? ⟨w.heap.size, 5, none⟩ = some (.int .i64 0)) wx from fun wx hb => by
                have hlp := HH1.out.lt (i := p) (Or.inr (Or.inl rfl))
                have hlm := HH1.out.lt (i := m) (Or.inr (Or.inr rfl))
                have hlq := HH1.out.lt (i := q) (Or.inl rfl)
                rw [HS1.out] at hlp hlm hlq
                have hz := HSZ.out
                obtain ⟨⟨y0, y1, y2, y3, y4, y5⟩, yf⟩ := ct_cells (c := ⟨0, 0, 1, 0, 0, 0⟩) ((hb.block w.heap.size (by omega) (by omega)).trans HNEW.out)
                exact ⟨hb, (World.cell?_of_block (a := ⟨q, 7, none⟩) (hb.block q (by omega) (fun h => by rcases h with h | h; exact HH.out.qp h; exact HH.out.qm h))).trans HP3.out, y0, y1, y2, y3, y4, y5⟩)
              have HADD := Lib.hid (fun (wx : World) (hb : Below w3.heap.size w3 wx) => wAddN_any ((HW3.out.below hb).below ((Below.refl wx.heap.size wx).alloc (Nat.le_refl _) (ctO (endC false) 71))) at_ HWL.out (some ⟨wx.heap.size, 0, none⟩) 1 1 [endC false] rfl (by omega) (fun e => by cases e) (cts_one (w := wx) (endC false)) (fun c hc => by obtain rfl := List.mem_singleton.1 hc; exact endC_right _) (fun g off e => by
                cases e
                have h1 := HW3.out.lt
                have h2 := hb.size
                omega))
              unfold ctO endC at HADD
              simp only [if_true, Bool.false_eq_true, if_false] at HADD
              clear z0 z1 z2 z3 z4 z5 zf d7 d8 c8 c11
              refine wp_region_noPanic ?_
              refine wp_region_held_drew (S := fun wx => Off (fun i => i = p ∨ i = m) w3 wx ∧ wx.cell? ⟨q, 7, none⟩ = some (.pointer (some ⟨p, 0, none⟩)) ∧ wx.cell? ⟨w.heap.size, 0, none⟩ = some (.int .i64 0) ∧ wx.cell? ⟨w.heap.size, 1, none⟩ = some (.int .i64 0) ∧ wx.cell? ⟨w.heap.size, 2, none⟩ = some (.int .i64 1) ∧ wx.cell? ⟨w.heap.size, 3, none⟩ = some (.int .i64 0) ∧ wx.cell? ⟨w.heap.size, 4, none⟩ = some (.int .i64 0) ∧ wx.cell? ⟨w.heap.size, 5, none⟩ = some (.int .i64 0)) (by kernel_rfl) ?_ (fun hHeld => ?_)
              · exact HSB.out _ (Off.ofBelow (Below.refl _ _).drew)
              refine wpAnyH_take (i := 0) (v := ?_) rfl (by kernel_rfl) (by kernel_rfl) (by kernel_rfl) (fun _ _ _ h => h) (Or.inl ⟨by rfl, ?hy⟩) (by assumption) ?_
              case hy => intro w hSw; (try dsimp only at hSw); go_simp; try with_reducible rfl
              try simp only [Act.put, List.getElem_toArray, List.getElem_cons_succ, List.getElem_cons_zero, List.setIfInBounds_toArray, List.set_cons_zero, List.set_cons_succ]
              refine wpAnyH_take (i := 1) (v := ?_) rfl (by kernel_rfl) (by kernel_rfl) (by kernel_rfl) (fun _ _ _ h => h) (Or.inl ⟨by rfl, ?hy⟩) (by assumption) ?_
              case hy => intro w hSw; (try dsimp only at hSw); go_simp; try with_reducible rfl
              try simp only [Act.put, List.getElem_toArray, List.getElem_cons_succ, List.getElem_cons_zero, List.setIfInBounds_toArray, List.set_cons_zero, List.set_cons_succ]
              refine wpAnyH_take (i := 2) (v := ?_) rfl (by kernel_rfl) (by kernel_rfl) (by kernel_rfl) (fun _ _ _ h => h) (Or.inl ⟨by rfl, ?hy⟩) (by assumption) ?_
              case hy => intro w hSw; (try dsimp only at hSw); go_simp; try with_reducible rfl
              try simp only [Act.put, List.getElem_toArray, List.getElem_cons_succ, List.getElem_cons_zero, List.setIfInBounds_toArray, List.set_cons_zero, List.set_cons_succ]
              refine wpAnyH_take (i := 3) (v := ?_) rfl (by kernel_rfl) (by kernel_rfl) (by kernel_rfl) (fun _ _ _ h => h) (Or.inl ⟨by rfl, ?hy⟩) (by assumption) ?_
              case hy => intro w hSw; (try dsimp only at hSw); go_simp; try with_reducible rfl
              try simp only [Act.put, List.getElem_toArray, List.getElem_cons_succ, List.getElem_cons_zero, List.setIfInBounds_toArray, List.set_cons_zero, List.set_cons_succ]
              refine wpAnyH_take (i := 4) (v := ?_) rfl (by kernel_rfl) (by kernel_rfl) (by kernel_rfl) (fun _ _ _ h => h) (Or.inl ⟨by rfl, ?hy⟩) (by assumption) ?_
              case hy => intro w hSw; (try dsimp only at hSw); go_simp; try with_reducible rfl
              try simp only [Act.put, List.getElem_toArray, List.getElem_cons_succ, List.getElem_cons_zero, List.setIfInBounds_toArray, List.set_cons_zero, List.set_cons_succ]
              refine wpAnyH_take (i := 5) (v := ?_) rfl (by kernel_rfl) (by kernel_rfl) (by kernel_rfl) (fun _ _ _ h => h) (Or.inl ⟨by rfl, ?hy⟩) (by assumption) ?_
              case hy => intro w hSw; (try dsimp only at hSw); go_simp; try with_reducible rfl
              try simp only [Act.put, List.getElem_toArray, List.getElem_cons_succ, List.getElem_cons_zero, List.setIfInBounds_toArray, List.set_cons_zero, List.set_cons_succ]
              refine wpAnyH_ready (rs := [6]) (by kernel_rfl) (by simp) (AllReadyH.cons rfl (fun K hK => ?_) AllReadyH.nil)
              go_simp
              have HD3 := Lib.hid (show Below w3.heap.size w3 w3.drew from (Below.refl _ _).drew)
              try (go_wp2_with fail)
              refine hK.out _ _ ?_ (fun hHeld => ?_)
              · exact HSB.out _ (Off.ofBelow (HD3.out.alloc HD3.out.size _))
              clear hK K
              try simp only [Act.put, List.getElem_toArray, List.getElem_cons_succ, List.getElem_cons_zero, List.setIfInBounds_toArray, List.set_cons_zero, List.set_cons_succ]
              refine wpAnyH_ready (rs := [7]) (by kernel_rfl) (by simp) (AllReadyH.cons rfl (fun K hK => ?_) AllReadyH.nil)
              go_simp
              refine (HADD.out _ HD3.out).mono ?_
              rintro e w5 ⟨rfl, hw5, ho5⟩
              have hoo : Off (fun i => i = p ∨ i = m) w3 w5 := (Off.ofBelow (S := fun i => i = p ∨ i = m) (HD3.out.alloc HD3.out.size _)).trans ho5 (fun _ _ h => h)
              have HW5 := Lib.hid hw5
              have HB5 := Lib.hid hoo
              have HO5 := Lib.hid (show Off (BOwn q p m) w w5 from ((off_q HO1.out).trans (Off.ofBelow (S := BOwn q p m) HBEL.out) (fun _ _ h => h)).trans (hoo.mono (S' := BOwn q p m) (fun i _ h => Or.inr h)) (fun _ _ h => h))
              have HAT5 := Lib.hid (show BrAt w5 q p m r (addS s at_ false) from ⟨(hoo.block q (by have := HH1.out.lt (i := q) (Or.inl rfl); rw [HS1.out] at this; rw [HSZ.out]; omega) (fun h => by rcases h with h | h; exact HH.out.qp h; exact HH.out.qm h)).trans ((HBEL.out.block q (HH1.out.lt (Or.inl rfl))).trans HH1.out.head), hw5, HH.out.qp, HH.out.qm, Int.le_refl _, HA0.out, HA1.out, Or.inl HST.out, HH.out.ok⟩)
              clear hw5 ho5 hoo HADD
              try (go_wp2_with fail)
              refine hK.out _ _ ?_ (fun hHeld => ?_)
              · exact HSB.out _ HB5.out
              clear hK K
              try simp only [Act.put, List.getElem_toArray, List.getElem_cons_succ, List.getElem_cons_zero, List.setIfInBounds_toArray, List.set_cons_zero, List.set_cons_succ]
              refine wpAnyH_done (by kernel_rfl) ?_ _
              refine NoPanic.normal ?_
              go_wp2_with (fail)
              have HS := Lib.hid (wSumN_any HW5.out at_ HLA.out)
              rw [Int.ediv_one] at HS
              have hCR : RightC (winC r.win 1 at_ (s.notes ++ newW at_ [endC false])) := winC_right HW5.out.right.1 at_
              have h7 := HAT5.out.cells.c7
              obtain ⟨C, hC⟩ : ∃ C, winC r.win 1 at_ (s.notes ++ newW at_ [endC false]) = C := ⟨_, rfl⟩
              rw [show newW at_ [(⟨0, 0, 1, 0, 0, 0⟩ : CntS)] = newW at_ [endC false] from rfl, hC] at HS
              rw [hC] at hCR
              have HCR := Lib.hid hCR
              have HCC := Lib.hid hC
              clear hC hCR
              obtain ⟨xp, xb, xd, xe, xr, xm⟩ := C
              unfold ctV at HS
              dsimp only at HS
              go_wp2_with (fail)
              refine HS.out.mono ?_
              rintro e w6 ⟨rfl, h6⟩
              have hb7 : Below w6.heap.size w6 (w6.alloc (ctO ⟨xp, xb, xd, xe, xr, xm⟩ 71)) := (Below.refl _ _).alloc (Nat.le_refl _) _
              have h7' := h6.trans (hb7.mono h6.size)
              have HAT7 := Lib.hid (HAT5.out.below h7')
              have HO7 := Lib.hid (HO5.out.trans (Off.ofBelow (S := BOwn q p m) h7') (fun _ _ h => h))
              have HOV := Lib.hid (bover_any HAT7.out ⟨xp, xb, xd, xe, xr, xm⟩ HCR.out)
              obtain ⟨⟨t0, t1, t2, t3, t4, t5⟩, tf⟩ := ct_cells (c := ⟨xp, xb, xd, xe, xr, xm⟩) ((get_allocW w6 (ctO ⟨xp, xb, xd, xe, xr, xm⟩ 71) w6.heap.size).trans (if_pos rfl))
              clear hb7 h7' h6 h7 HS HAT5 HO5 tf
              unfold ctO at HAT7 HO7 HOV t0 t1 t2 t3 t4 t5
              unfold ctV at HOV
              dsimp only at HAT7 HO7 HOV t0 t1 t2 t3 t4 t5
              obtain ⟨OV, hOV⟩ : ∃ OV, overB r ⟨xp, xb, xd, xe, xr, xm⟩ = OV := ⟨_, rfl⟩
              rw [hOV] at HOV
              have HOO := Lib.hid hOV
              clear hOV
              go_wp2_with (fail)
              refine HOV.out.mono ?_
              rintro e w8 ⟨rfl, h8⟩
              have HAT8 := Lib.hid (HAT7.out.below h8)
              have HO8 := Lib.hid (HO7.out.trans (Off.ofBelow (S := BOwn q p m) h8) (fun _ _ h => h))
              clear h8 HOV HAT7 HO7 t0 t1 t2 t3 t4 t5
              cases OV with
              | true =>
                have HOP := Lib.hid (bopen_any HAT8.out at_ HA0.out HA1.out)
                go_wp2_with (fail)
                refine HOP.out.mono ?_
                rintro e w9 ⟨rfl, hh9, ho9⟩
                have HH9 := Lib.hid hh9
                have HO9 := Lib.hid ho9
                clear hh9 ho9
                go_wp2_with (fail)
                go_ret
                exact ⟨by rw [HC.out]; rfl, p, m, by unfold bdoneS; rw [if_pos HC.out, if_neg (by simp), if_pos HST.out, HBB.out, HCC.out, HOO.out, if_pos rfl]; exact HH9.out, HO8.out.trans (off_q HO9.out) (fun _ _ h => h), Or.inl ⟨rfl, rfl⟩⟩
              | false =>
                go_wp2_with (fail)
                go_ret
                exact ⟨by rw [HC.out]; rfl, p, m, by unfold bdoneS; rw [if_pos HC.out, if_neg (by simp), if_pos HST.out, HBB.out, HCC.out, HOO.out, if_neg (by simp)]; exact HAT8.out, HO8.out, Or.inl ⟨rfl, rfl⟩⟩
          · have hne : (s.st == 1) = false := by simpa using hst
            have HST := Lib.hid hst
            clear h1 h hE hB hst a0 a1 a2
            generalize hT : s.st = T at c8 d8 hne
            clear hT
            go_enter Try.func10, Try.ntmps10
            go_wp2_with (fail)
            refine HL.out.mono ?_
            rintro e wq ⟨rfl, hq⟩
            have hq := hq.symm
            subst hq
            go_wp2_with (fail)
            refine HBAD.out.mono ?_
            rintro e wq ⟨rfl, hq⟩
            subst hq
            go_wp2_with (fail)
            go_ret
            exact ⟨by rw [HC.out]; rfl, p, m, by unfold bdoneS; rw [if_pos HC.out, if_neg (by simp), if_neg HST.out]; exact HH1.out, off_q HO1.out, Or.inl ⟨rfl, rfl⟩⟩
  · have HC := Lib.hid (show bdoneE s at_ rt probe = 2 by unfold bdoneE; rw [if_pos (Or.inl hE)])
    rw [hE] at HL
    clear hE h
    go_enter Try.func10, Try.ntmps10
    go_wp2_with (fail)
    refine HL.out.mono ?_
    rintro e wq ⟨rfl, hq⟩
    have hq := hq.symm
    subst hq
    go_wp2_with (fail)
    go_ret
    exact DoneB.no HH.out HC.out (by decide) rfl
  · by_cases hr0 : rt < 0
    · have HC := Lib.hid (show bdoneE s at_ rt probe = 2 by unfold bdoneE; rw [if_pos (Or.inr (isT_lo hr0))])
      rw [hE] at HL
      clear hE h
      go_enter Try.func10, Try.ntmps10
      go_wp2_with (fail)
      refine HL.out.mono ?_
      rintro e wq ⟨rfl, hq⟩
      have hq := hq.symm
      subst hq
      go_wp2_with (fail)
      go_ret
      exact DoneB.no HH.out HC.out (by decide) rfl
    · by_cases hr1 : 1152921504606846976 < rt
      · have HC := Lib.hid (show bdoneE s at_ rt probe = 2 by unfold bdoneE; rw [if_pos (Or.inr (isT_hi hr1))])
        rw [hE] at HL
        clear hE h
        go_enter Try.func10, Try.ntmps10
        go_wp2_with (fail)
        refine HL.out.mono ?_
        rintro e wq ⟨rfl, hq⟩
        have hq := hq.symm
        subst hq
        go_wp2_with (fail)
        go_ret
        exact DoneB.no HH.out HC.out (by decide) rfl
      · have HC := Lib.hid (show bdoneE s at_ rt probe = 7 by unfold bdoneE; rw [if_neg (by rw [hE, isT_ok hr0 hr1]; simp), if_pos (by rw [hE]; decide)]; exact hE)
        rw [hE] at HL
        clear hE h
        go_enter Try.func10, Try.ntmps10
        go_wp2_with (fail)
        refine HL.out.mono ?_
        rintro e wq ⟨rfl, hq⟩
        have hq := hq.symm
        subst hq
        go_wp2_with (fail)
        go_ret
        exact DoneB.no HH.out HC.out (by decide) rfl
end Go.Proofs.Ytlipbkpbflgamaa

/- The reference's breaker: Look, Until, GiveUp, Enter. -/
namespace Go.Proofs.Ytlipbkpbflgamaa
open Go.RowKit
set_option linter.unusedVariables false
set_option linter.unusedSimpArgs false

theorem wrong14_zero (la at_ : Int) : wrong14 la at_ 0 = lookW la at_ := by
  unfold wrong14 lookW
  by_cases h : at_ < 0 ∨ 1152921504606846976 < at_
  · rw [if_pos h, if_pos (Or.inl (by unfold isT; simp; omega))]
  · rw [if_neg h, if_neg]
    rintro (h1 | h1)
    · unfold isT at h1; simp at h1; omega
    · cases h1
theorem R14At.set {w : World} {q p : Nat} {r : BreakS} {s s' : BrS} {un un' : Int} {v : Value} {L : List Bk3} (h : R14At w q p r s un v L) (k : Nat) (u : Value) (hc : (r14C r p s un).setIfInBounds k u = r14C r p s' un') (hw : s'.wl = s.wl) (hn : s'.notes = s.notes) (hu : s'.st ≠ 1 → un' = s'.un) (h1 : s'.wl ≤ s'.la) (h2 : 0 ≤ s'.la) (h3 : s'.la ≤ 1152921504606846976) : R14At (w.setCell ⟨q, k, none⟩ u) q p r s' un' v L := by
  refine ⟨?_, ?_, h.qp, h.qv, hu, h1, h2, h3⟩
  · rw [heap_setCell_same w q k _ _ u h.head, hc]; rfl
  · rw [hw, hn]
    refine h.win.kept (fun i hi => heap_setCell_other w ⟨q, k, none⟩ i u (fun e => ?_))
    have e : i = q := e
    rcases hi with rfl | hi
    · exact h.qp e.symm
    · exact h.qv (by rw [← e]; exact hi)
theorem r14_frozen {w : World} {q p : Nat} {r : BreakS} {s : BrS} {un : Int} {v : Value} {L : List Bk3} (h : R14At w q p r s un v L) (k : Nat) : w.frozen? ⟨q, k, none⟩ = false := frozen_of_row w q k _ _ h.head
set_option maxHeartbeats 1600000 in
theorem r14look_any {w : World} {q p : Nat} {r : BreakS} {s : BrS} {un : Int} {v : Value} {L : List Bk3} (h : R14At w q p r s un v L) (at_ : Int) : Calls Try.prog 27 #[.pointer (some ⟨q, 0, none⟩), .int .i64 at_] w fun e w' => e = .returned (.tuple #[.bool (enterA s at_), .int .i64 (lookW s.la at_)]) ∧ w' = w := by
  have H1 := Lib.hid (r14wrong_any h.cells at_ 0)
  rw [wrong14_zero] at H1
  have H2 := Lib.hid (r14passes_any h.cells h.un_ at_)
  unfold enterA
  generalize passB s at_ = A at *
  obtain ⟨E, hE⟩ : ∃ E, lookW s.la at_ = E := ⟨_, rfl⟩
  rw [hE] at H1 ⊢
  clear h hE
  by_cases h0 : E = 0
  · subst h0
    rw [show decide ((0 : Int) = 0) = true from rfl, Bool.true_and]
    go_enter Try.func27, Try.ntmps27
    go_wp2_with (fail)
    refine H1.out.mono ?_
    rintro e wq ⟨rfl, hq⟩
    rw [hq]
    clear hq
    go_wp2_with (fail)
    refine H2.out.mono ?_
    rintro e wq ⟨rfl, hq⟩
    rw [hq]
    clear hq
    go_wp2_with (fail)
    go_ret2
    exact ⟨rfl, rfl⟩
  · have h1 : (E == 0) = false := by simpa using h0
    rw [decide_eq_false h0, Bool.false_and]
    clear h0
    go_enter Try.func27, Try.ntmps27
    go_wp2_with (fail)
    refine H1.out.mono ?_
    rintro e wq ⟨rfl, hq⟩
    rw [hq]
    clear hq
    go_wp2_with (fail)
    go_ret2
    exact ⟨rfl, rfl⟩
set_option maxHeartbeats 1600000 in
theorem r14until_any {w : World} {q p : Nat} {r : BreakS} {s : BrS} {un : Int} {v : Value} {L : List Bk3} (h : R14At w q p r s un v L) : Calls Try.prog 52 #[.pointer (some ⟨q, 0, none⟩)] w fun e w' => e = .returned (.tuple #[.int .i64 (untilN s), .bool (decide (s.st ≠ 1))]) ∧ w' = w := by
  have c8 := h.cells.c8
  have c9 := h.cells.c9
  have hu := h.un_
  clear h
  unfold untilN
  by_cases h1 : s.st = 1
  · rw [h1] at c8 ⊢
    rw [if_pos rfl, show decide ((1 : Int) ≠ 1) = false from rfl]
    clear h1 hu
    go_enter Try.func52, Try.ntmps52
    go_wp2_with (fail)
    go_ret2
    exact ⟨rfl, rfl⟩
  · rw [if_neg h1, ← hu h1, show decide (s.st ≠ 1) = true by simp [h1]]
    have n1 : (s.st == 1) = false := by simpa using h1
    generalize s.st = T at *
    clear h1 hu
    go_enter Try.func52, Try.ntmps52
    go_wp2_with (fail)
    go_ret2
    exact ⟨rfl, rfl⟩
end Go.Proofs.Ytlipbkpbflgamaa

/- The reference's breaker: Enter. -/
namespace Go.Proofs.Ytlipbkpbflgamaa
open Go.RowKit
set_option linter.unusedVariables false
set_option linter.unusedSimpArgs false

set_option maxHeartbeats 1600000 in
theorem r14enter_any {w : World} {q p : Nat} {r : BreakS} {s : BrS} {un : Int} {v : Value} {L : List Bk3} (h : R14At w q p r s un v L) (hst0 : s.st = 1 ∨ s.st = 2 ∨ s.st = 3) (at_ : Int) :
    Calls Try.prog 20 #[.pointer (some ⟨q, 0, none⟩), .int .i64 at_] w fun e w' => e = .returned (.tuple #[.bool (enterA s at_), .bool (enterP s at_), .int .i64 (lookW s.la at_)]) ∧ R14At w' q p r (enterS s at_) un v L ∧ Off (fun i => i = q) w w' := by
  have HL := Lib.hid (r14look_any h at_)
  by_cases hE : lookW s.la at_ = 0
  · obtain ⟨a0, a1, a2⟩ := lookW_ok hE
    have h1 := h.set (s' := { s with la := at_ }) (un' := un) 11 (.int .i64 at_) rfl rfl rfl h.un_ (by have := h.wl; show s.wl ≤ at_; omega) a0 a1
    have HO1 := Lib.hid ((Off.ofBelow (S := fun i => i = q) (Below.refl _ w)).setCell (p := ⟨q, 11, none⟩) (fun _ => rfl) (.int .i64 at_))
    have h2 := fun (hu : un = s.un) => h1.set (s' := { s with la := at_, st := 3 }) (un' := un) 8 (.int .i64 3) rfl rfl rfl (fun _ => hu) h1.wl a0 a1
    have HUN := Lib.hid h.un_
    have HO2 := Lib.hid (HO1.out.setCell (p := ⟨q, 8, none⟩) (fun _ => rfl) (.int .i64 3))
    have HH1 := Lib.hid h1
    have HH2 := Lib.hid h2
    have c11 := h.cells.c11
    have f11 := r14_frozen h 11
    have c8 := h1.cells.c8
    have f8 := r14_frozen h1 8
    unfold enterA enterP enterS
    rw [if_pos hE, hE, decide_eq_true rfl, Bool.true_and, Bool.true_and]
    unfold enterA at HL
    rw [hE, decide_eq_true rfl, Bool.true_and] at HL
    clear h1 h2 hE a0 a1 a2
    dsimp only at c8
    rcases hst0 with hst | hst | hst
    · rw [hst] at c8
      rw [show passB s at_ = true by unfold passB; rw [hst]; simp] at HL ⊢
      rw [show decide (s.st = 2) = false by rw [hst]; decide, Bool.false_and, if_neg (by rw [hst]; simp)]
      clear hst h
      go_enter Try.func20, Try.ntmps20
      go_wp2_with (fail)
      refine HL.out.mono ?_
      rintro e wq ⟨rfl, hq⟩
      subst hq
      go_wp2_with (fail)
      go_ret3
      exact ⟨rfl, HH1.out, HO1.out⟩
    · rw [hst] at c8
      by_cases hu : s.un ≤ at_
      · rw [show passB s at_ = true by unfold passB; rw [hst, decide_eq_true hu]; simp] at HL ⊢
        rw [show decide (s.st = 2) = true by rw [hst]; decide, decide_eq_true hu, Bool.true_and, if_pos ⟨hst, hu⟩]
        have HST := Lib.hid hst
        clear hst h hu
        go_enter Try.func20, Try.ntmps20
        go_wp2_with (fail)
        refine HL.out.mono ?_
        rintro e wq ⟨rfl, hq⟩
        subst hq
        go_wp2_with (fail)
        go_ret3
        exact ⟨rfl, HH2.out (HUN.out (by rw [HST.out]; decide)), HO2.out⟩
      · rw [show passB s at_ = false by unfold passB; rw [hst, decide_eq_false hu]; simp] at HL ⊢
        rw [show decide (s.st = 2) = true by rw [hst]; decide, decide_eq_false hu, Bool.true_and, if_neg (fun h => hu h.2)]
        clear hst h hu
        go_enter Try.func20, Try.ntmps20
        go_wp2_with (fail)
        refine HL.out.mono ?_
        rintro e wq ⟨rfl, hq⟩
        subst hq
        go_wp2_with (fail)
        go_ret3
        exact ⟨rfl, HH1.out, HO1.out⟩
    · rw [hst] at c8
      rw [show passB s at_ = false by unfold passB; rw [hst]; simp] at HL ⊢
      rw [show decide (s.st = 2) = false by rw [hst]; decide, Bool.false_and, if_neg (by rw [hst]; simp)]
      clear hst h
      go_enter Try.func20, Try.ntmps20
      go_wp2_with (fail)
      refine HL.out.mono ?_
      rintro e wq ⟨rfl, hq⟩
      subst hq
      go_wp2_with (fail)
      go_ret3
      exact ⟨rfl, HH1.out, HO1.out⟩
  · have HH := Lib.hid h
    unfold enterA at HL
    rw [decide_eq_false hE, Bool.false_and] at HL
    unfold enterA enterP enterS
    rw [if_neg hE, decide_eq_false hE, Bool.false_and, Bool.false_and]
    generalize lookW s.la at_ = E at *
    have hne : (E != 0) = true := by simpa using hE
    clear hE h
    go_enter Try.func20, Try.ntmps20
    go_wp2_with (fail)
    refine HL.out.mono ?_
    rintro e wq ⟨rfl, hq⟩
    subst hq
    go_wp2_with (fail)
    go_ret3
    exact ⟨rfl, HH.out, Off.ofBelow (Below.refl _ _)⟩
end Go.Proofs.Ytlipbkpbflgamaa

/- The reference's breaker: GiveUp, trip. -/
namespace Go.Proofs.Ytlipbkpbflgamaa
open Go.RowKit
set_option linter.unusedVariables false
set_option linter.unusedSimpArgs false

set_option maxHeartbeats 1600000 in
theorem r14give_any {w : World} {q p : Nat} {r : BreakS} {s : BrS} {un : Int} {v : Value} {L : List Bk3} (h : R14At w q p r s un v L) (at_ : Int) :
    Calls Try.prog 23 #[.pointer (some ⟨q, 0, none⟩), .int .i64 at_] w fun e w' => e = .returned (.int .i64 (giveE s at_)) ∧ R14At w' q p r (giveS s at_) un v L ∧ Off (fun i => i = q) w w' := by
  have HL := Lib.hid (r14wrong_any h.cells at_ 0)
  rw [wrong14_zero] at HL
  have c8 := h.cells.c8
  by_cases hE : lookW s.la at_ = 0
  · obtain ⟨a0, a1, a2⟩ := lookW_ok hE
    rw [hE] at HL
    by_cases h3 : s.st = 3
    · have h1 := h.set (s' := { s with st := 2 }) (un' := un) 8 (.int .i64 2) rfl rfl rfl (fun _ => h.un_ (by rw [h3]; decide)) h.wl h.la0 h.la1
      have h2 := h1.set (s' := { s with la := at_, st := 2 }) (un' := un) 11 (.int .i64 at_) rfl rfl rfl (fun _ => h.un_ (by rw [h3]; decide)) (by have := h.wl; show s.wl ≤ at_; omega) a0 a1
      have HO2 := Lib.hid (((Off.ofBelow (S := fun i => i = q) (Below.refl _ w)).setCell (p := ⟨q, 8, none⟩) (fun _ => rfl) (.int .i64 2)).setCell (p := ⟨q, 11, none⟩) (fun _ => rfl) (.int .i64 at_))
      have HH2 := Lib.hid h2
      have f8 := r14_frozen h 8
      have c11 := h1.cells.c11
      have f11 := r14_frozen h1 11
      have HG := Lib.hid (show giveE s at_ = 0 by unfold giveE; rw [hE, if_neg (by simp), if_pos h3])
      have HS := Lib.hid (show giveS s at_ = { s with la := at_, st := 2 } by unfold giveS; rw [HG.out, if_pos rfl])
      rw [HG.out, HS.out]
      rw [h3] at c8
      dsimp only at c11
      clear h h1 h2 hE h3 a0 a1 a2
      go_enter Try.func23, Try.ntmps23
      go_wp2_with (fail)
      refine HL.out.mono ?_
      rintro e wq ⟨rfl, hq⟩
      subst hq
      go_wp2_with (fail)
      go_ret
      exact ⟨rfl, HH2.out, HO2.out⟩
    · have HG := Lib.hid (show giveE s at_ = 4 by unfold giveE; rw [hE, if_neg (by simp), if_neg h3])
      have HS := Lib.hid (show giveS s at_ = s by unfold giveS; rw [HG.out, if_neg (by decide)])
      rw [HG.out, HS.out]
      have HH := Lib.hid h
      have n3 : (s.st != 3) = true := by simpa using h3
      generalize s.st = T at c8 n3
      clear h hE h3 a0 a1 a2
      go_enter Try.func23, Try.ntmps23
      go_wp2_with (fail)
      refine HL.out.mono ?_
      rintro e wq ⟨rfl, hq⟩
      subst hq
      go_wp2_with (fail)
      go_ret
      exact ⟨rfl, HH.out, Off.ofBelow (Below.refl _ _)⟩
  · have HG := Lib.hid (show giveE s at_ = lookW s.la at_ by unfold giveE; rw [if_pos hE])
    have HS := Lib.hid (show giveS s at_ = s by unfold giveS; rw [HG.out, if_neg hE])
    rw [HG.out, HS.out]
    have HH := Lib.hid h
    generalize lookW s.la at_ = E at *
    have hne : (E != 0) = true := by simpa using hE
    clear hE h c8
    go_enter Try.func23, Try.ntmps23
    go_wp2_with (fail)
    refine HL.out.mono ?_
    rintro e wq ⟨rfl, hq⟩
    subst hq
    go_wp2_with (fail)
    go_ret
    exact ⟨rfl, HH.out, Off.ofBelow (Below.refl _ _)⟩
set_option maxHeartbeats 800000 in
theorem r6plus_small (a b : Int) (a0 : 0 ≤ a) (a1 : a ≤ 1152921504606846976) (b0 : 0 ≤ b) (b1 : b ≤ 1152921504606846976) (w : World) : Calls Try.prog 63 #[.int .i64 a, .int .i64 b] w fun e w' => e = .returned (.int .i64 (a + b)) ∧ w' = w := by
  have h : ¬ 4611686018427387904 - a < b := by omega
  go_enter Try.func63, Try.ntmps63
  go_wp2_with (fail)
  go_ret
  exact ⟨rfl, rfl⟩
end Go.Proofs.Ytlipbkpbflgamaa

/- The reference's breaker: trips. -/
namespace Go.Proofs.Ytlipbkpbflgamaa
open Go.RowKit
set_option linter.unusedVariables false
set_option linter.unusedSimpArgs false

set_option maxHeartbeats 3200000 in
set_option maxRecDepth 100000 in
theorem r14trips_any {w : World} {q p : Nat} {r : BreakS} {s : BrS} {un : Int} {v : Value} {L : List Bk3} (h : R14At w q p r s un v L) (ok : BreakOk r) (c : CntS) (hr : RightC c) (hs : c.d ≤ 1125899906842624) :
    Calls Try.prog 49 #[.pointer (some ⟨q, 0, none⟩), ctV c] w fun e w' => e = .returned (.bool (overB r c)) ∧ Below w.heap.size w w' := by
  obtain ⟨cp, cb, cd, ce, cr, cm⟩ := c
  have b0 := hr.d0
  have b2 := hr.e0
  have b3 := hr.ed
  have HQ := Lib.hid (h.lt (Or.inl rfl))
  have hbx : Below w.heap.size w (w.alloc (ctO ⟨cp, cb, cd, ce, cr, cm⟩ 71)) := (Below.refl _ _).alloc (Nat.le_refl _) _
  have hcw := (h.below hbx).cells
  have HN := Lib.hid ((get_allocW w (ctO ⟨cp, cb, cd, ce, cr, cm⟩ 71) w.heap.size).trans (if_pos rfl))
  have k0 := ok.c0
  have k1 := ok.c1
  unfold mostR at k1
  have c1 := hcw.c1
  have c2 := hcw.c2
  have c4 := hcw.c4
  unfold overB ctV
  unfold ctO at hbx HN c1 c2 c4
  dsimp only at *
  generalize r.cnt = K at *
  generalize r.gr = G at *
  generalize r.least = LE at *
  have HBX := Lib.hid hbx
  clear h hr hcw hbx ok
  by_cases h1 : cd < LE
  · rw [if_pos h1]
    clear k1
    go_enter Try.func49, Try.ntmps49
    go_wp2_with (fail)
    go_quiet (fail)
    go_wp2_with (fail)
    go_ret
    exact ⟨by first | rfl | simp, by first | exact below_drewG HBX.out _ | exact below_drewG (below_drewG HBX.out _) _⟩
  · rw [if_neg h1]
    by_cases h2 : G = 2
    · subst h2
      rw [if_pos rfl]
      clear k1
      go_enter Try.func49, Try.ntmps49
      go_wp2_with (fail)
      go_quiet (fail)
      go_wp2_with (fail)
      go_quiet (fail)
      go_wp2_with (fail)
      go_ret
      exact ⟨by first | rfl | simp, by first | exact below_drewG HBX.out _ | exact below_drewG (below_drewG HBX.out _) _⟩
    · rw [if_neg h2]
      rw [if_neg h2] at k1
      have n2 : (G == 2) = false := by simpa using h2
      have m0 : 0 ≤ K * cd := Int.mul_nonneg k0 b0
      have m1 : K * cd ≤ 1000 * cd := Int.mul_le_mul_of_nonneg_right k1 b0
      have hk1 : keep (K * cd) = K * cd := by unfold keep; omega
      have hk2 : keep (1000 * ce) = 1000 * ce := by unfold keep; omega
      rw [hk1, hk2]
      by_cases h3 : K = 1000
      · subst h3
        rw [show decide ((1000 : Int) * cd < 1000 * ce) = false from decide_eq_false (by omega), Bool.false_or, show decide ((1000 : Int) = 1000) = true from rfl, Bool.true_and]
        clear hk1 hk2 m0 m1 k1 h2
        go_enter Try.func49, Try.ntmps49
        go_wp2_with (fail)
        go_quiet (fail)
        go_wp2_with (fail)
        go_ret
        exact ⟨by first | rfl | simp, by first | exact below_drewG HBX.out _ | exact below_drewG (below_drewG HBX.out _) _⟩
      · have n3 : (K == 1000) = false := by simpa using h3
        rw [decide_eq_false h3, Bool.false_and, Bool.or_false]
        obtain ⟨X, hX⟩ : ∃ X, cd * K = X := ⟨_, rfl⟩
        have hX2 : K * cd = X := by rw [Int.mul_comm]; exact hX
        rw [hX2] at m0 m1 ⊢
        have w1 : IntKind.i64.wrap (cd * K) = X := by rw [hX]; exact wrap_small _ m0 (by omega)
        have w2 : IntKind.i64.wrap (ce * 1000) = 1000 * ce := by rw [Int.mul_comm]; exact wrap_small _ (by omega) (by omega)
        clear hk1 hk2 hX hX2 h2 h3
        go_enter Try.func49, Try.ntmps49
        go_wp2_with (fail)
        go_quiet (fail)
        go_wp2_with (fail)
        go_quiet (fail)
        go_wp2_with (fail)
        go_ret
        exact ⟨by first | rfl | simp, by first | exact below_drewG HBX.out _ | exact below_drewG (below_drewG HBX.out _) _⟩
end Go.Proofs.Ytlipbkpbflgamaa

/- The reference's breaker: trip. The program's: Last. -/
namespace Go.Proofs.Ytlipbkpbflgamaa
open Go.RowKit
set_option linter.unusedVariables false
set_option linter.unusedSimpArgs false

theorem blast_any {w : World} {q p m : Nat} {r : BreakS} {s : BrS} (h : BrAt w q p m r s) : Calls Try.prog 53 #[.pointer (some ⟨q, 0, none⟩)] w fun e w' => e = .returned (.int .i64 s.la) ∧ w' = w := by
  have c11 := h.cells.c11
  clear h
  go_enter Try.func53, Try.ntmps53
  go_wp2_with (fail)
  go_ret
  exact ⟨rfl, rfl⟩
set_option maxHeartbeats 1600000 in
theorem r14trip_any {w : World} {q p : Nat} {r : BreakS} {s : BrS} {un : Int} {v : Value} {L : List Bk3} (h : R14At w q p r s un v L) (ok : BreakOk r) (at_ : Int) (a0 : 0 ≤ at_) (a1 : at_ ≤ 1152921504606846976) :
    Calls Try.prog 46 #[.pointer (some ⟨q, 0, none⟩), .int .i64 at_] w fun e w' => e = .returned (.tuple #[]) ∧ R14At w' q p r (openS r s at_) (at_ + r.rec_) v L ∧ Off (fun i => i = q) w w' := by
  have r0 := ok.r0
  have r1 := ok.r1
  have h1 := h.set (s' := { s with st := 2, un := un }) (un' := un) 8 (.int .i64 2) rfl rfl rfl (fun _ => rfl) h.wl h.la0 h.la1
  have HP := Lib.hid (r6plus_small at_ r.rec_ a0 a1 (by omega) (by omega) (w.setCell ⟨q, 8, none⟩ (.int .i64 2)))
  have h2 := h1.set (s' := { s with st := 2, un := at_ + r.rec_ }) (un' := at_ + r.rec_) 9 (.int .i64 (at_ + r.rec_)) rfl rfl rfl (fun _ => rfl) h.wl h.la0 h.la1
  have h3 := h2.set (s' := openS r s at_) (un' := at_ + r.rec_) 10 (.int .i64 (wrap64 (s.tr + 1))) rfl rfl rfl (fun _ => rfl) h.wl h.la0 h.la1
  have HO := Lib.hid ((((Off.ofBelow (S := fun i => i = q) (Below.refl _ w)).setCell (p := ⟨q, 8, none⟩) (fun _ => rfl) (.int .i64 2)).setCell (p := ⟨q, 9, none⟩) (fun _ => rfl) (.int .i64 (at_ + r.rec_))).setCell (p := ⟨q, 10, none⟩) (fun _ => rfl) (.int .i64 (wrap64 (s.tr + 1))))
  have HH := Lib.hid h3
  have c8 := h.cells.c8
  have f8 := r14_frozen h 8
  have c6 := h1.cells.c6
  have c9 := h1.cells.c9
  have f9 := r14_frozen h1 9
  have c10 := h2.cells.c10
  have f10 := r14_frozen h2 10
  dsimp only at c9 c10
  generalize r.rec_ = RC at *
  clear h h1 h2 h3 ok
  go_enter Try.func46, Try.ntmps46
  go_wp2_with (fail)
  refine HP.out.mono ?_
  rintro e wq ⟨rfl, hq⟩
  rw [hq]
  clear hq
  go_wp2_with (fail)
  go_end0
  exact ⟨rfl, HH.out, HO.out⟩
end Go.Proofs.Ytlipbkpbflgamaa

/- breaker: one of the call's own; a rule that is right, played through. -/
namespace Go.Proofs.Ytlipbkpbflgamaa
open Go.RowKit
set_option linter.unusedVariables false
set_option linter.unusedSimpArgs false

/-- A breaker that the call has made. -/
structure BrIn (w wr : World) (q : Nat) (r : BreakS) (s : BrS) : Prop where
  ex : ∃ p m, BrAt wr q p m r s ∧ w.heap.size ≤ p ∧ w.heap.size ≤ m
  bel : Below w.heap.size w wr
  qq : w.heap.size ≤ q
theorem BrIn.below {w wr w' : World} {q : Nat} {r : BreakS} {s : BrS} (h : BrIn w wr q r s) (hb : Below wr.heap.size wr w') : BrIn w w' q r s := by
  obtain ⟨p, m, h1, h2, h3⟩ := h.ex
  exact ⟨⟨p, m, h1.below hb, h2, h3⟩, h.bel.trans (hb.mono h.bel.size), h.qq⟩
theorem BrIn.lt {w wr : World} {q : Nat} {r : BreakS} {s : BrS} (h : BrIn w wr q r s) : q < wr.heap.size := by
  obtain ⟨p, m, h1, h2, h3⟩ := h.ex
  exact h1.lt (Or.inl rfl)
theorem BrIn.off {w wr w' : World} {q p m : Nat} (hb : Below w.heap.size w wr) (ho : Off (BOwn q p m) wr w') (hq : w.heap.size ≤ q) (hp : w.heap.size ≤ p) (hm : w.heap.size ≤ m) : Below w.heap.size w w' :=
  hb.trans (ho.below hb.size (fun i hi e => by rcases e with e | e | e <;> omega))
theorem bin_done {w wr : World} {q : Nat} {r : BreakS} {s : BrS} (h : BrIn w wr q r s) (at_ rt : Int) (failed probe : Bool) :
    Calls Try.prog 10 #[.pointer (some ⟨q, 0, none⟩), .int .i64 at_, .int .i64 rt, .bool failed, .bool probe] wr fun e w' => e = .returned (.int .i64 (bdoneE s at_ rt probe)) ∧ BrIn w w' q r (bdoneS r s at_ rt failed probe) := by
  obtain ⟨p, m, h1, h2, h3⟩ := h.ex
  refine (bdone_any h1 at_ rt failed probe).mono fun e w' hd => ⟨hd.e, ?_⟩
  obtain ⟨p', m', k1, k2, k3⟩ := hd.at'
  refine ⟨⟨p', m', k1, ?_, ?_⟩, BrIn.off h.bel k2 h.qq h2 h3, h.qq⟩
  · have := h.bel.size; rcases k3 with ⟨k, _⟩ | ⟨k, _⟩ <;> omega
  · have := h.bel.size; rcases k3 with ⟨_, k⟩ | ⟨_, k⟩ <;> omega
theorem bin_enter {w wr : World} {q : Nat} {r : BreakS} {s : BrS} (h : BrIn w wr q r s) (at_ : Int) :
    Calls Try.prog 13 #[.pointer (some ⟨q, 0, none⟩), .int .i64 at_] wr fun e w' => e = .returned (.tuple #[.bool (enterA s at_), .bool (enterP s at_), .int .i64 (lookW s.la at_)]) ∧ BrIn w w' q r (enterS s at_) := by
  obtain ⟨p, m, h1, h2, h3⟩ := h.ex
  exact (benter_any h1 at_).mono fun e w' hd => ⟨hd.1, ⟨p, m, hd.2.1, h2, h3⟩, BrIn.off h.bel (off_q hd.2.2) h.qq h2 h3, h.qq⟩
theorem bin_give {w wr : World} {q : Nat} {r : BreakS} {s : BrS} (h : BrIn w wr q r s) (at_ : Int) :
    Calls Try.prog 22 #[.pointer (some ⟨q, 0, none⟩), .int .i64 at_] wr fun e w' => e = .returned (.int .i64 (giveE s at_)) ∧ BrIn w w' q r (giveS s at_) := by
  obtain ⟨p, m, h1, h2, h3⟩ := h.ex
  exact (bgive_any h1 at_).mono fun e w' hd => ⟨hd.1, ⟨p, m, hd.2.1, h2, h3⟩, BrIn.off h.bel (off_q hd.2.2) h.qq h2 h3, h.qq⟩
theorem bin_state {w wr : World} {q : Nat} {r : BreakS} {s : BrS} (h : BrIn w wr q r s) : Calls Try.prog 14 #[.pointer (some ⟨q, 0, none⟩)] wr fun e w' => e = .returned (.int .u8 s.st) ∧ w' = wr := by
  obtain ⟨p, m, h1, h2, h3⟩ := h.ex
  exact bstate_any h1
theorem bin_trips {w wr : World} {q : Nat} {r : BreakS} {s : BrS} (h : BrIn w wr q r s) : Calls Try.prog 15 #[.pointer (some ⟨q, 0, none⟩)] wr fun e w' => e = .returned (.int .i64 s.tr) ∧ w' = wr := by
  obtain ⟨p, m, h1, h2, h3⟩ := h.ex
  exact btrips_any h1
theorem bin_until {w wr : World} {q : Nat} {r : BreakS} {s : BrS} (h : BrIn w wr q r s) : Calls Try.prog 11 #[.pointer (some ⟨q, 0, none⟩)] wr fun e w' => e = .returned (.tuple #[.int .i64 (untilN s), .bool (decide (s.st ≠ 1))]) ∧ w' = wr := by
  obtain ⟨p, m, h1, h2, h3⟩ := h.ex
  exact buntil_any h1
theorem bin_look {w wr : World} {q : Nat} {r : BreakS} {s : BrS} (h : BrIn w wr q r s) (at_ : Int) :
    Calls Try.prog 12 #[.pointer (some ⟨q, 0, none⟩), .int .i64 at_] wr fun e w' => e = .returned (.tuple #[.bool (decide (lookW s.la at_ = 0) && passB s at_), .int .i64 (lookW s.la at_)]) ∧ w' = wr := by
  obtain ⟨p, m, h1, h2, h3⟩ := h.ex
  exact blookp_any h1 at_
theorem bin_no (r : BreakS) (hz : r.res.size ≤ maxLen) {w wr : World} (hb : Below w.heap.size w wr) (hE : breakE r ≠ 0) :
    Calls Try.prog 5 #[r.v] wr fun e w' => e = .returned (.tuple #[.pointer none, .int .i64 (breakE r)]) ∧ Below w.heap.size w w' :=
  (bnew_any r hz wr).mono fun e w' h => ⟨(h.no hE).1, hb.trans ((h.no hE).2.mono hb.size)⟩
theorem bin_new (r : BreakS) (hz : r.res.size ≤ maxLen) {w wr : World} (hb : Below w.heap.size w wr) (hE : breakE r = 0) :
    Calls Try.prog 5 #[r.v] wr fun e w' => ∃ q, e = .returned (.tuple #[.pointer (some ⟨q, 0, none⟩), .int .i64 0]) ∧ BrIn w w' q r new0 ∧ wr.heap.size ≤ q := by
  refine (bnew_any r hz wr).mono fun e w' h => ?_
  obtain ⟨q, p, m, he, h1, h2, h3, h4, h5⟩ := h.yes hE
  have := hb.size
  exact ⟨q, he, ⟨⟨p, m, h1, by omega, by omega⟩, hb.trans (h2.mono hb.size), by omega⟩, h3⟩

def liveR : BreakS := ⟨⟨#[97]⟩, 1, 500, 0, 2, 1000000, 1000000⟩
def lv1 : BrS := bdoneS liveR new0 1 0 true false
def lv2 : BrS := bdoneS liveR lv1 2 0 true false
def lv3 : BrS := enterS lv2 1000002
def lv4 : BrS := enterS lv3 1000003
def lv5 : BrS := bdoneS liveR lv4 1000004 0 false true
set_option maxHeartbeats 3200000 in
set_option maxRecDepth 100000 in
theorem brlive_any (w : World) : Calls Try.prog 4 #[] w fun e w' => e = .returned (.bool true) ∧ Below w.heap.size w w' := by
  have HNW := Lib.hid (bin_new liveR (by decide) (Below.refl w.heap.size w) (by kernel_rfl))
  unfold BreakS.v BreakS.cells at HNW
  rw [show liveR.res = ⟨#[97]⟩ from rfl, show liveR.gr = 1 from rfl, show liveR.cnt = 500 from rfl, show liveR.slow = 0 from rfl, show liveR.least = 2 from rfl, show liveR.win = 1000000 from rfl, show liveR.rec_ = 1000000 from rfl] at HNW
  go_enter Try.func4, Try.ntmps4
  go_wp2_with (fail)
  refine HNW.out.mono ?_
  rintro e w1 ⟨q, rfl, h1, _⟩
  have H1 := Lib.hid (bin_done h1 1 0 true false)
  rw [show bdoneE new0 1 0 false = 0 by kernel_rfl, show bdoneS liveR new0 1 0 true false = lv1 from rfl] at H1
  clear h1 HNW
  go_wp2_with (fail)
  refine H1.out.mono ?_
  rintro e w2 ⟨rfl, h2⟩
  have H2 := Lib.hid (bin_done h2 2 0 true false)
  rw [show bdoneE lv1 2 0 false = 0 by kernel_rfl, show bdoneS liveR lv1 2 0 true false = lv2 from rfl] at H2
  clear h2 H1
  go_wp2_with (fail)
  refine H2.out.mono ?_
  rintro e w3 ⟨rfl, h3⟩
  have H3 := Lib.hid (bin_until h3)
  have H4 := Lib.hid (bin_look h3 1000001)
  have H5 := Lib.hid (bin_enter h3 1000002)
  rw [show untilN lv2 = 1000002 by kernel_rfl, show decide (lv2.st ≠ 1) = true by kernel_rfl] at H3
  rw [show lookW lv2.la 1000001 = 0 by kernel_rfl, show passB lv2 1000001 = false by kernel_rfl, Bool.and_false] at H4
  rw [show lookW lv2.la 1000002 = 0 by kernel_rfl, show enterA lv2 1000002 = true by kernel_rfl, show enterP lv2 1000002 = true by kernel_rfl, show enterS lv2 1000002 = lv3 from rfl] at H5
  clear h3 H2
  go_wp2_with (fail)
  refine H3.out.mono ?_
  rintro e wq ⟨rfl, hq⟩
  subst hq
  go_wp2_with (fail)
  refine H4.out.mono ?_
  rintro e wq2 ⟨rfl, hq⟩
  subst hq
  go_wp2_with (fail)
  refine H5.out.mono ?_
  rintro e w4 ⟨rfl, h4⟩
  have H6 := Lib.hid (bin_enter h4 1000003)
  rw [show lookW lv3.la 1000003 = 0 by kernel_rfl, show enterA lv3 1000003 = false by kernel_rfl, show enterP lv3 1000003 = false by kernel_rfl, show enterS lv3 1000003 = lv4 from rfl] at H6
  clear h4 H3 H4 H5
  go_wp2_with (fail)
  refine H6.out.mono ?_
  rintro e w5 ⟨rfl, h5⟩
  have H7 := Lib.hid (bin_done h5 1000004 0 false true)
  rw [show bdoneE lv4 1000004 0 true = 0 by kernel_rfl, show bdoneS liveR lv4 1000004 0 false true = lv5 from rfl] at H7
  clear h5 H6
  go_wp2_with (fail)
  refine H7.out.mono ?_
  rintro e w6 ⟨rfl, h6⟩
  have H8 := Lib.hid (bin_state h6)
  have H9 := Lib.hid (bin_trips h6)
  have HB := Lib.hid h6.bel
  rw [show lv5.st = 1 by kernel_rfl] at H8
  rw [show lv5.tr = 1 by kernel_rfl] at H9
  clear h6 H7
  go_wp2_with (fail)
  refine H8.out.mono ?_
  rintro e wq3 ⟨rfl, hq⟩
  subst hq
  go_wp2_with (fail)
  refine H9.out.mono ?_
  rintro e wq4 ⟨rfl, hq⟩
  subst hq
  go_wp2_with (fail)
  go_ret
  exact ⟨rfl, HB.out⟩
end Go.Proofs.Ytlipbkpbflgamaa

/- The program's breaker: Sum. -/
namespace Go.Proofs.Ytlipbkpbflgamaa
open Go.RowKit
set_option linter.unusedVariables false
set_option linter.unusedSimpArgs false

/-- What a breaker's Sum tells. -/
def sumS (r : BreakS) (s : BrS) (at_ : Int) : CntS := if lookW s.la at_ = 0 then winC r.win 1 at_ s.notes else .zero
theorem look_wl {s : BrS} {at_ : Int} (h : lookW s.la at_ = 0) (hw : s.wl ≤ s.la) : lookW s.wl at_ = 0 := by
  obtain ⟨a0, a1, a2⟩ := lookW_ok h
  unfold lookW
  rw [if_neg (by omega), if_neg (by omega)]
set_option maxHeartbeats 3200000 in
theorem bsum_no {w : World} {q p m : Nat} {r : BreakS} {s : BrS} (h : BrAt w q p m r s) (at_ : Int) (E : Int) (hE : lookW s.la at_ = E) (hne : (E != 0) = true) :
    Calls Try.prog 50 #[.pointer (some ⟨q, 0, none⟩), .int .i64 at_] w fun e w' => e = .returned (.tuple #[.agg #[.int .i64 0, .int .i64 0, .int .i64 0, .int .i64 0, .int .i64 0, .int .i64 0], .int .i64 E]) ∧ Below w.heap.size w w' := by
  have hB : Below w.heap.size w (w.alloc (.cells #[.int .i64 0, .int .i64 0, .int .i64 0, .int .i64 0, .int .i64 0, .int .i64 0] 71)) := (Below.refl _ _).alloc (Nat.le_refl _) _
  have HL := Lib.hid (blook_any (h.below hB) at_)
  have HNW := Lib.hid (show (w.alloc (.cells #[.int .i64 0, .int .i64 0, .int .i64 0, .int .i64 0, .int .i64 0, .int .i64 0] 71)).heap[w.heap.size]? = some (ctO .zero 71) from (get_allocW w _ w.heap.size).trans (if_pos rfl))
  have HB := Lib.hid hB
  rw [hE] at HL
  clear h hE hB
  obtain ⟨N, hN⟩ : ∃ N, w.heap.size = N := ⟨_, rfl⟩
  have HN := Lib.hid hN
  go_enter Try.func50, Try.ntmps50
  go_wp2_with (fail)
  obtain ⟨w0, hw0⟩ : ∃ w0, (w.alloc (.cells #[.int .i64 0, .int .i64 0, .int .i64 0, .int .i64 0, .int .i64 0, .int .i64 0] 71)) = w0 := ⟨_, rfl⟩
  rw [hw0] at HL HNW HB ⊢
  rw [hN] at HNW
  clear hw0 hN
  refine HL.out.mono ?_
  rintro e wq ⟨rfl, hq⟩
  rw [hq]
  clear hq HL
  obtain ⟨⟨z0, z1, z2, z3, z4, z5⟩, zf⟩ := ct_cells (c := .zero) HNW.out
  dsimp only [CntS.zero] at z0 z1 z2 z3 z4 z5
  go_wp2_with (fail)
  refine bodyPost_ret (results_cell_tmp (P := Try.prog) rfl _ _ N 71 #[.int .i64 0, .int .i64 0, .int .i64 0, .int .i64 0, .int .i64 0, .int .i64 0] (0, 0) _ (.int .i64 E) (by rfl) (by rfl) ?hh Try.underlying71 rfl (by kernel_rfl)) rfl ?_
  case hh => exact sixC_same (c := .zero) HNW.out 0 0 0 0 0 0
  exact ⟨rfl, sixC_below HB.out (by rw [HN.out]; omega) 0 0 0 0 0 0⟩
set_option maxHeartbeats 3200000 in
theorem bsum_yes {w : World} {q p m : Nat} {r : BreakS} {s : BrS} (h : BrAt w q p m r s) (at_ : Int) (hE : lookW s.la at_ = 0) :
    Calls Try.prog 50 #[.pointer (some ⟨q, 0, none⟩), .int .i64 at_] w fun e w' => e = .returned (.tuple #[ctV (winC r.win 1 at_ s.notes), .int .i64 0]) ∧ Below w.heap.size w w' := by
  have hB : Below w.heap.size w (w.alloc (.cells #[.int .i64 0, .int .i64 0, .int .i64 0, .int .i64 0, .int .i64 0, .int .i64 0] 71)) := (Below.refl _ _).alloc (Nat.le_refl _) _
  have HL := Lib.hid (blook_any (h.below hB) at_)
  have HS := Lib.hid (wSumN_any (h.below hB).win at_ (look_wl hE h.wl))
  rw [Int.ediv_one] at HS
  have d7 := (h.below hB).cells.c7
  have HNW := Lib.hid (show (w.alloc (.cells #[.int .i64 0, .int .i64 0, .int .i64 0, .int .i64 0, .int .i64 0, .int .i64 0] 71)).heap[w.heap.size]? = some (ctO .zero 71) from (get_allocW w _ w.heap.size).trans (if_pos rfl))
  have HB := Lib.hid hB
  rw [hE] at HL
  obtain ⟨C, hC⟩ : ∃ C, winC r.win 1 at_ s.notes = C := ⟨_, rfl⟩
  rw [hC] at HS ⊢
  clear h hE hB hC
  obtain ⟨N, hN⟩ : ∃ N, w.heap.size = N := ⟨_, rfl⟩
  have HN := Lib.hid hN
  obtain ⟨xp, xb, xd, xe, xr, xm⟩ := C
  unfold ctV at HS ⊢
  dsimp only at HS ⊢
  go_enter Try.func50, Try.ntmps50
  go_wp2_with (fail)
  obtain ⟨w0, hw0⟩ : ∃ w0, (w.alloc (.cells #[.int .i64 0, .int .i64 0, .int .i64 0, .int .i64 0, .int .i64 0, .int .i64 0] 71)) = w0 := ⟨_, rfl⟩
  rw [hw0] at HL HNW HB HS d7 ⊢
  rw [hN] at HNW
  clear hw0 hN
  refine HL.out.mono ?_
  rintro e wq ⟨rfl, hq⟩
  rw [hq]
  clear hq HL
  go_wp2_with (fail)
  refine HS.out.mono ?_
  rintro e w1 ⟨rfl, h1⟩
  have hn := (h1.block N ((Array.getElem?_eq_some_iff.1 HNW.out).1)).trans HNW.out
  have HB1 := Lib.hid (HB.out.trans (h1.mono HB.out.size))
  have HN2 := Lib.hid hn
  obtain ⟨⟨z0, z1, z2, z3, z4, z5⟩, zf⟩ := ct_cells (c := .zero) hn
  dsimp only [CntS.zero] at z0 z1 z2 z3 z4 z5
  clear h1 hn d7 HNW
  go_wp2_with (fail)
  refine bodyPost_ret (results_cell_tmp (P := Try.prog) rfl _ _ N 71 #[.int .i64 xp, .int .i64 xb, .int .i64 xd, .int .i64 xe, .int .i64 xr, .int .i64 xm] (0, 0) _ (.int .i64 0) (by rfl) (by rfl) ?hh Try.underlying71 rfl (by kernel_rfl)) rfl ?_
  case hh => exact sixC_same (c := .zero) HN2.out xp xb xd xe xr xm
  exact ⟨rfl, sixC_below HB1.out (by rw [HN.out]; omega) xp xb xd xe xr xm⟩
theorem bsum_any {w : World} {q p m : Nat} {r : BreakS} {s : BrS} (h : BrAt w q p m r s) (at_ : Int) :
    Calls Try.prog 50 #[.pointer (some ⟨q, 0, none⟩), .int .i64 at_] w fun e w' => e = .returned (.tuple #[ctV (sumS r s at_), .int .i64 (lookW s.la at_)]) ∧ Below w.heap.size w w' := by
  unfold sumS
  by_cases hE : lookW s.la at_ = 0
  · rw [if_pos hE, hE]
    exact bsum_yes h at_ hE
  · rw [if_neg hE]
    exact bsum_no h at_ _ rfl (by simpa using hE)
end Go.Proofs.Ytlipbkpbflgamaa
