import Derived.Laws.Rows
import Derived.Lib.BufferMore
import Derived.Test.YtemlafbkkaloiaaGreatGS0
import Derived.Test.YtemlafbkkaloiaaGreatGGWinA
namespace Go.Proofs.YtemlafbkkaloiaaGreat
open Go.RowKit
set_option linter.unusedVariables false
set_option linter.unusedSimpArgs false
def STwo (N : Nat) (W0 : World) (x y : CntS) (wx : World) : Prop :=
  wx.cell? ⟨N, 0, none⟩ = some (.int .i64 x.p) ∧ wx.cell? ⟨N, 1, none⟩ = some (.int .i64 x.b) ∧ wx.cell? ⟨N, 2, none⟩ = some (.int .i64 x.d) ∧ wx.cell? ⟨N, 3, none⟩ = some (.int .i64 x.e) ∧ wx.cell? ⟨N, 4, none⟩ = some (.int .i64 x.r) ∧ wx.cell? ⟨N, 5, none⟩ = some (.int .i64 x.m) ∧ wx.cell? ⟨N + 1, 0, none⟩ = some (.int .i64 y.p) ∧ wx.cell? ⟨N + 1, 1, none⟩ = some (.int .i64 y.b) ∧ wx.cell? ⟨N + 1, 2, none⟩ = some (.int .i64 y.d) ∧ wx.cell? ⟨N + 1, 3, none⟩ = some (.int .i64 y.e) ∧ wx.cell? ⟨N + 1, 4, none⟩ = some (.int .i64 y.r) ∧ wx.cell? ⟨N + 1, 5, none⟩ = some (.int .i64 y.m) ∧ N + 2 < wx.heap.size ∧ Below W0.heap.size W0 wx
theorem STwo.below {N : Nat} {W0 w1 w2 : World} {x y : CntS} (h : STwo N W0 x y w1) (hb : Below w1.heap.size w1 w2) : STwo N W0 x y w2 := by
  obtain ⟨a0, a1, a2, a3, a4, a5, b0, b1, b2, b3, b4, b5, hz, hB⟩ := h
  have hc : ∀ (a : Addr) v, w1.cell? a = some v → w2.cell? a = some v := fun a v h => (World.cell?_of_block (w := w1) (hb.block a.block (World.block_lt_of_cell? w1 _ h))).trans h
  exact ⟨hc _ _ a0, hc _ _ a1, hc _ _ a2, hc _ _ a3, hc _ _ a4, hc _ _ a5, hc _ _ b0, hc _ _ b1, hc _ _ b2, hc _ _ b3, hc _ _ b4, hc _ _ b5, Nat.lt_of_lt_of_le hz hb.size, hB.trans (hb.mono hB.size)⟩
theorem STwo.drew {N : Nat} {W0 w1 : World} {x y : CntS} (h : STwo N W0 x y w1) : STwo N W0 x y w1.drew := h.below ((Below.refl _ _).drew)
theorem STwo.alloc {N : Nat} {W0 w1 : World} {x y : CntS} (h : STwo N W0 x y w1) (o : Obj) : STwo N W0 x y (w1.alloc o) := h.below ((Below.refl _ _).alloc (Nat.le_refl _) o)
theorem two_open (x y : CntS) (w W0 : World) (hW0 : ((w.alloc (ctO x 92)).alloc (ctO y 92)).alloc (ctO .zero 92) = W0) : W0.heap.size = w.heap.size + 3 ∧ STwo w.heap.size W0 x y W0 ∧ Below w.heap.size w W0 ∧ (∀ k, k < 6 → W0.cell? ⟨w.heap.size + 1 + 1, k, none⟩ = some (.int .i64 0)) ∧ (∀ k, W0.frozen? ⟨w.heap.size + 1 + 1, k, none⟩ = false) ∧ W0.heap[w.heap.size + 1 + 1]? = some (ctO .zero 92) := by
  subst hW0
  have hs : (((w.alloc (ctO x 92)).alloc (ctO y 92)).alloc (ctO .zero 92)).heap.size = w.heap.size + 3 := by simp
  have hB : Below w.heap.size w (((w.alloc (ctO x 92)).alloc (ctO y 92)).alloc (ctO .zero 92)) := (((Below.refl _ _).alloc (Nat.le_refl _) _).alloc (by simp) _).alloc (by simp; omega) _
  have g0 : (((w.alloc (ctO x 92)).alloc (ctO y 92)).alloc (ctO .zero 92)).heap[w.heap.size]? = some (ctO x 92) := by
    rw [get_allocW, if_neg (by simp; omega), get_allocW, if_neg (by simp), get_allocW, if_pos rfl]
  have g1 : (((w.alloc (ctO x 92)).alloc (ctO y 92)).alloc (ctO .zero 92)).heap[w.heap.size + 1]? = some (ctO y 92) := by
    rw [get_allocW, if_neg (by simp), get_allocW, if_pos (by simp)]
  have g2 : (((w.alloc (ctO x 92)).alloc (ctO y 92)).alloc (ctO .zero 92)).heap[w.heap.size + 1 + 1]? = some (ctO .zero 92) := by
    rw [get_allocW, if_pos (by simp)]
  generalize (((w.alloc (ctO x 92)).alloc (ctO y 92)).alloc (ctO .zero 92)) = W1 at *
  refine ⟨hs, ⟨?_, ?_, ?_, ?_, ?_, ?_, ?_, ?_, ?_, ?_, ?_, ?_, by omega, Below.refl _ _⟩, hB, ?_, ?_, ?_⟩
  · simp [World.cell?, g0, ctO]
  · simp [World.cell?, g0, ctO]
  · simp [World.cell?, g0, ctO]
  · simp [World.cell?, g0, ctO]
  · simp [World.cell?, g0, ctO]
  · simp [World.cell?, g0, ctO]
  · simp [World.cell?, g1, ctO]
  · simp [World.cell?, g1, ctO]
  · simp [World.cell?, g1, ctO]
  · simp [World.cell?, g1, ctO]
  · simp [World.cell?, g1, ctO]
  · simp [World.cell?, g1, ctO]
  · intro k hk
    match k, hk with
    | 0, _ => simp [World.cell?, g2, ctO, CntS.zero]
    | 1, _ => simp [World.cell?, g2, ctO, CntS.zero]
    | 2, _ => simp [World.cell?, g2, ctO, CntS.zero]
    | 3, _ => simp [World.cell?, g2, ctO, CntS.zero]
    | 4, _ => simp [World.cell?, g2, ctO, CntS.zero]
    | 5, _ => simp [World.cell?, g2, ctO, CntS.zero]
  · intro k; simp [World.frozen?, g2, ctO]
  · exact g2
structure LeafTwo (N S : Nat) (W0 WL : World) (P0 P1 P2 P3 P4 : Int) : Prop where
  r0 : WL.cell? ⟨N + 1 + 1, 0, none⟩ = some (.int .i64 0)
  r1 : WL.cell? ⟨N + 1 + 1, 1, none⟩ = some (.int .i64 0)
  r2 : WL.cell? ⟨N + 1 + 1, 2, none⟩ = some (.int .i64 0)
  r3 : WL.cell? ⟨N + 1 + 1, 3, none⟩ = some (.int .i64 0)
  r4 : WL.cell? ⟨N + 1 + 1, 4, none⟩ = some (.int .i64 0)
  r5 : WL.cell? ⟨N + 1 + 1, 5, none⟩ = some (.int .i64 0)
  n0 : WL.cell? ⟨S, 0, none⟩ = some (.int .i64 P0)
  n1 : WL.cell? ⟨S, 1, none⟩ = some (.int .i64 P1)
  n2 : WL.cell? ⟨S, 2, none⟩ = some (.int .i64 P2)
  n3 : WL.cell? ⟨S, 3, none⟩ = some (.int .i64 P3)
  n4 : WL.cell? ⟨S, 4, none⟩ = some (.int .i64 P4)
  n5 : WL.cell? ⟨S, 5, none⟩ = some (.int .i64 0)
  fr : ∀ k, WL.frozen? ⟨N + 1 + 1, k, none⟩ = false
  fn : ∀ k, WL.frozen? ⟨S, k, none⟩ = false
  sz : S = N + 3
  lt : S < WL.heap.size
  g2 : WL.heap[N + 1 + 1]? = some (ctO .zero 92)
  be : Below W0.heap.size W0 WL
theorem two_leaf {N : Nat} {W0 : World} {P0 P1 P2 P3 P4 : Int} (hsz : W0.heap.size = N + 3) (hg : W0.heap[N + 1 + 1]? = some (ctO .zero 92)) : LeafTwo N W0.heap.size W0 (W0.alloc (.cells #[.int .i64 P0, .int .i64 P1, .int .i64 P2, .int .i64 P3, .int .i64 P4, .int .i64 0] 92)).drew P0 P1 P2 P3 P4 := by
  have hB : Below W0.heap.size W0 (W0.alloc (.cells #[.int .i64 P0, .int .i64 P1, .int .i64 P2, .int .i64 P3, .int .i64 P4, .int .i64 0] 92)).drew := ((Below.refl _ _).alloc (Nat.le_refl _) _).drew
  have g2 : (W0.alloc (.cells #[.int .i64 P0, .int .i64 P1, .int .i64 P2, .int .i64 P3, .int .i64 P4, .int .i64 0] 92)).drew.heap[N + 1 + 1]? = some (ctO .zero 92) := (hB.block _ (by omega)).trans hg
  have g3 : (W0.alloc (.cells #[.int .i64 P0, .int .i64 P1, .int .i64 P2, .int .i64 P3, .int .i64 P4, .int .i64 0] 92)).drew.heap[W0.heap.size]? = some (.cells #[.int .i64 P0, .int .i64 P1, .int .i64 P2, .int .i64 P3, .int .i64 P4, .int .i64 0] 92) := (get_allocW _ _ _).trans (if_pos rfl)
  have hlt : W0.heap.size < (W0.alloc (.cells #[.int .i64 P0, .int .i64 P1, .int .i64 P2, .int .i64 P3, .int .i64 P4, .int .i64 0] 92)).drew.heap.size := by simp [World.drew]
  generalize (W0.alloc (.cells #[.int .i64 P0, .int .i64 P1, .int .i64 P2, .int .i64 P3, .int .i64 P4, .int .i64 0] 92)).drew = W1 at *
  constructor <;> first | exact hsz | exact hlt | exact g2 | exact hB | (simp [World.cell?, g2, ctO, CntS.zero]; done) | (simp [World.cell?, g3, ctO, CntS.zero]; done) | (intro k; simp [World.frozen?, g2, ctO]; done) | (intro k; simp [World.frozen?, g3, ctO]; done)
def TwoR (a a' : Act) (w' W0 : World) (P0 P1 P2 P3 P4 : Int) : Prop :=
  ∃ (x6 x7 x8 x9 x10 x11 x12 x13 x14 x15 x16 x17 x18 x19 x20 x21 x22 x23 x24 x25 x26 x27 x28 x29 x30 x31 : Value), a' = ((((((((((((((((((((((((((a.put (some 6) x6).put (some 7) x7).put (some 8) x8).put (some 9) x9).put (some 10) x10).put (some 11) x11).put (some 12) x12).put (some 13) x13).put (some 14) x14).put (some 15) x15).put (some 16) x16).put (some 17) x17).put (some 18) x18).put (some 19) x19).put (some 20) x20).put (some 21) x21).put (some 22) x22).put (some 23) x23).put (some 24) x24).put (some 25) x25).put (some 26) x26).put (some 27) x27).put (some 28) x28).put (some 29) x29).put (some 30) x30).put (some 31) x31).put (some 5) (.pointer (some ⟨W0.heap.size, 0, none⟩)) ∧ w' = (W0.alloc (.cells #[.int .i64 P0, .int .i64 P1, .int .i64 P2, .int .i64 P3, .int .i64 P4, .int .i64 0] 92)).drew
theorem two_end {WL : World} {N Z : Nat} {W0 w : World} (hg : WL.heap[N + 1 + 1]? = some (ctO .zero 92)) (hne : ¬ Z = N + 1 + 1) (hN : w.heap.size = N) (hB : Below N w W0) (hBe : Below W0.heap.size W0 WL) (hZ : W0.heap.size = Z) (hNZ : N + 1 + 1 < Z) (V P0 P1 P2 P3 P4 : Int) :
    (((((((WL.setCell ⟨Z, 5, none⟩ (.int .i64 V)).setCell ⟨N + 1 + 1, 0, none⟩ (.int .i64 P0)).setCell ⟨N + 1 + 1, 1, none⟩ (.int .i64 P1)).setCell ⟨N + 1 + 1, 2, none⟩ (.int .i64 P2)).setCell ⟨N + 1 + 1, 3, none⟩ (.int .i64 P3)).setCell ⟨N + 1 + 1, 4, none⟩ (.int .i64 P4)).setCell ⟨N + 1 + 1, 5, none⟩ (.int .i64 V)).heap[N + 1 + 1]? = some (.cells #[.int .i64 P0, .int .i64 P1, .int .i64 P2, .int .i64 P3, .int .i64 P4, .int .i64 V] 92 (0, 0)) ∧
    Below w.heap.size w (((((((WL.setCell ⟨Z, 5, none⟩ (.int .i64 V)).setCell ⟨N + 1 + 1, 0, none⟩ (.int .i64 P0)).setCell ⟨N + 1 + 1, 1, none⟩ (.int .i64 P1)).setCell ⟨N + 1 + 1, 2, none⟩ (.int .i64 P2)).setCell ⟨N + 1 + 1, 3, none⟩ (.int .i64 P3)).setCell ⟨N + 1 + 1, 4, none⟩ (.int .i64 P4)).setCell ⟨N + 1 + 1, 5, none⟩ (.int .i64 V)) := by
  constructor
  · have h1 := (heap_setCell_other WL ⟨Z, 5, none⟩ (N + 1 + 1) (.int .i64 V) (fun e => hne e.symm)).trans hg
    exact heap_setCell_same _ _ 5 _ _ _ (heap_setCell_same _ _ 4 _ _ _ (heap_setCell_same _ _ 3 _ _ _ (heap_setCell_same _ _ 2 _ _ _ (heap_setCell_same _ _ 1 _ _ _ (heap_setCell_same _ _ 0 _ _ _ h1)))))
  · subst hN
    have hl : Below w.heap.size w WL := hB.trans (hBe.mono (by omega))
    exact ((((((hl.setCell (show w.heap.size ≤ Z by omega) _).setCell (show w.heap.size ≤ w.heap.size + 1 + 1 by omega) _).setCell (show w.heap.size ≤ w.heap.size + 1 + 1 by omega) _).setCell (show w.heap.size ≤ w.heap.size + 1 + 1 by omega) _).setCell (show w.heap.size ≤ w.heap.size + 1 + 1 by omega) _).setCell (show w.heap.size ≤ w.heap.size + 1 + 1 by omega) _).setCell (show w.heap.size ≤ w.heap.size + 1 + 1 by omega) _
theorem wp_midW {P : Program} {c : Code} {K : Exit → Act → World → Prop} {a : Act} {w : World} (R : Act → Act → World → Prop) (h1 : c.wp P (fun e a' w' => e = .normal ∧ R a a' w') a w) (h2 : ∀ a' w', R a a' w' → K .normal a' w') : c.wp P K a w :=
  wp_mono h1 (fun e a' w' h => by obtain ⟨rfl, h⟩ := h; exact h2 a' w' h)
set_option maxHeartbeats 12800000 in
set_option maxRecDepth 100000 in
theorem wtwo_any (x y : CntS) (hx : RightC x) (hy : RightC y) (w : World) : Calls Tryz.prog 99 #[ctV x, ctV y] w fun e w' => e = .returned (ctV (twoC x y)) ∧ Below w.heap.size w w' := by
  have C0 := Lib.hid (fun w => wplus_any x.p y.p hx.p0 hx.p1 hy.p0 hy.p1 w)
  have C1 := Lib.hid (fun w => wplus_any x.b y.b hx.b0 hx.b1 hy.b0 hy.b1 w)
  have C2 := Lib.hid (fun w => wplus_any x.d y.d hx.d0 hx.d1 hy.d0 hy.d1 w)
  have C3 := Lib.hid (fun w => wplus_any x.e y.e hx.e0 hx.e1 hy.e0 hy.e1 w)
  have C4 := Lib.hid (fun w => wplus_any x.r y.r hx.r0 hx.r1 hy.r0 hy.r1 w)
  obtain ⟨M, hM⟩ : ∃ M, M = (twoC x y).m := ⟨_, rfl⟩
  have HV := Lib.hid (show ctV (twoC x y) = .agg #[.int .i64 (plusW x.p y.p), .int .i64 (plusW x.b y.b), .int .i64 (plusW x.d y.d), .int .i64 (plusW x.e y.e), .int .i64 (plusW x.r y.r), .int .i64 M] by rw [hM]; rfl)
  have HM := Lib.hid (show M = if x.d = 0 then y.m else if y.d = 0 then x.m else if x.m < y.m then x.m else y.m from hM)
  generalize plusW x.p y.p = P0 at C0 HV
  generalize plusW x.b y.b = P1 at C1 HV
  generalize plusW x.d y.d = P2 at C2 HV
  generalize plusW x.e y.e = P3 at C3 HV
  generalize plusW x.r y.r = P4 at C4 HV
  unfold ctV at HV
  unfold ctV
  rw [HV.out]
  clear hx hy hM HV
  go_enter Tryz.func99, Tryz.ntmps99
  go_wp2_with (fail)
  obtain ⟨W0, hW0⟩ : ∃ W0, ((w.alloc (ctO x 92)).alloc (ctO y 92)).alloc (ctO .zero 92) = W0 := ⟨_, rfl⟩
  obtain ⟨hsz, hSW, hBW, hR, hfz, hg2⟩ := two_open x y w W0 hW0
  have HSW := Lib.hid hSW
  have HBW := Lib.hid hBW
  have HR := Lib.hid hR
  have HSZ := Lib.hid hsz
  have HFZ := Lib.hid hfz
  have HG2 := Lib.hid hg2
  unfold ctO CntS.zero at hW0
  dsimp only at hW0
  rw [hW0]
  clear hW0 hSW hBW hR hsz hfz hg2
  generalize hNN : w.heap.size = N at *
  have HNN := Lib.hid hNN
  clear hNN
  refine wp_midW (fun a a' w' => TwoR a a' w' W0 P0 P1 P2 P3 P4) ?_ ?_
  · refine wp_region_noPanic ?_
    refine wp_region_held_drew (S := STwo N W0 x y) (by kernel_rfl) ?_ (fun hHeld => ?_)
    · exact HSW.out.drew
    refine wpAnyH_take (i := 0) (v := ?_) rfl (by kernel_rfl) (by kernel_rfl) (by kernel_rfl) (fun _ _ _ h => h) (Or.inl ⟨by rfl, ?hy⟩) (by assumption) ?_
    case hy => intro wq hSw; obtain ⟨a0, a1, a2, a3, a4, a5, b0, b1, b2, b3, b4, b5, hz, hB⟩ := hSw; go_simp; try with_reducible rfl
    try simp only [Act.put, szA, szB, szC, szD, szE, szF]
    refine wpAnyH_take (i := 1) (v := ?_) rfl (by kernel_rfl) (by kernel_rfl) (by kernel_rfl) (fun _ _ _ h => h) (Or.inl ⟨by rfl, ?hy⟩) (by assumption) ?_
    case hy => intro wq hSw; obtain ⟨a0, a1, a2, a3, a4, a5, b0, b1, b2, b3, b4, b5, hz, hB⟩ := hSw; go_simp; try with_reducible rfl
    try simp only [Act.put, szA, szB, szC, szD, szE, szF]
    refine wpAnyH_take (i := 2) (v := ?_) rfl (by kernel_rfl) (by kernel_rfl) (by kernel_rfl) (fun _ _ _ h => h) (Or.inl ⟨by rfl, ?hy⟩) (by assumption) ?_
    case hy => intro wq hSw; obtain ⟨a0, a1, a2, a3, a4, a5, b0, b1, b2, b3, b4, b5, hz, hB⟩ := hSw; go_simp; try with_reducible rfl
    try simp only [Act.put, szA, szB, szC, szD, szE, szF]
    refine wpAnyH_take (i := 3) (v := ?_) rfl (by kernel_rfl) (by kernel_rfl) (by kernel_rfl) (fun _ _ _ h => h) (Or.inl ⟨by rfl, ?hy⟩) (by assumption) ?_
    case hy => intro wq hSw; obtain ⟨a0, a1, a2, a3, a4, a5, b0, b1, b2, b3, b4, b5, hz, hB⟩ := hSw; go_simp; try with_reducible rfl
    try simp only [Act.put, szA, szB, szC, szD, szE, szF]
    refine wpAnyH_take (i := 5) (v := ?_) rfl (by kernel_rfl) (by kernel_rfl) (by kernel_rfl) (fun _ _ _ h => h) (Or.inl ⟨by rfl, ?hy⟩) (by assumption) ?_
    case hy => intro wq hSw; obtain ⟨a0, a1, a2, a3, a4, a5, b0, b1, b2, b3, b4, b5, hz, hB⟩ := hSw; go_simp; try with_reducible rfl
    try simp only [Act.put, szA, szB, szC, szD, szE, szF]
    refine wpAnyH_take (i := 6) (v := ?_) rfl (by kernel_rfl) (by kernel_rfl) (by kernel_rfl) (fun _ _ _ h => h) (Or.inl ⟨by rfl, ?hy⟩) (by assumption) ?_
    case hy => intro wq hSw; obtain ⟨a0, a1, a2, a3, a4, a5, b0, b1, b2, b3, b4, b5, hz, hB⟩ := hSw; go_simp; try with_reducible rfl
    try simp only [Act.put, szA, szB, szC, szD, szE, szF]
    refine wpAnyH_take (i := 7) (v := ?_) rfl (by kernel_rfl) (by kernel_rfl) (by kernel_rfl) (fun _ _ _ h => h) (Or.inl ⟨by rfl, ?hy⟩) (by assumption) ?_
    case hy => intro wq hSw; obtain ⟨a0, a1, a2, a3, a4, a5, b0, b1, b2, b3, b4, b5, hz, hB⟩ := hSw; go_simp; try with_reducible rfl
    try simp only [Act.put, szA, szB, szC, szD, szE, szF]
    refine wpAnyH_take (i := 8) (v := ?_) rfl (by kernel_rfl) (by kernel_rfl) (by kernel_rfl) (fun _ _ _ h => h) (Or.inl ⟨by rfl, ?hy⟩) (by assumption) ?_
    case hy => intro wq hSw; obtain ⟨a0, a1, a2, a3, a4, a5, b0, b1, b2, b3, b4, b5, hz, hB⟩ := hSw; go_simp; try with_reducible rfl
    try simp only [Act.put, szA, szB, szC, szD, szE, szF]
    refine wpAnyH_take (i := 10) (v := ?_) rfl (by kernel_rfl) (by kernel_rfl) (by kernel_rfl) (fun _ _ _ h => h) (Or.inl ⟨by rfl, ?hy⟩) (by assumption) ?_
    case hy => intro wq hSw; obtain ⟨a0, a1, a2, a3, a4, a5, b0, b1, b2, b3, b4, b5, hz, hB⟩ := hSw; go_simp; try with_reducible rfl
    try simp only [Act.put, szA, szB, szC, szD, szE, szF]
    refine wpAnyH_take (i := 11) (v := ?_) rfl (by kernel_rfl) (by kernel_rfl) (by kernel_rfl) (fun _ _ _ h => h) (Or.inl ⟨by rfl, ?hy⟩) (by assumption) ?_
    case hy => intro wq hSw; obtain ⟨a0, a1, a2, a3, a4, a5, b0, b1, b2, b3, b4, b5, hz, hB⟩ := hSw; go_simp; try with_reducible rfl
    try simp only [Act.put, szA, szB, szC, szD, szE, szF]
    refine wpAnyH_take (i := 12) (v := ?_) rfl (by kernel_rfl) (by kernel_rfl) (by kernel_rfl) (fun _ _ _ h => h) (Or.inl ⟨by rfl, ?hy⟩) (by assumption) ?_
    case hy => intro wq hSw; obtain ⟨a0, a1, a2, a3, a4, a5, b0, b1, b2, b3, b4, b5, hz, hB⟩ := hSw; go_simp; try with_reducible rfl
    try simp only [Act.put, szA, szB, szC, szD, szE, szF]
    refine wpAnyH_take (i := 13) (v := ?_) rfl (by kernel_rfl) (by kernel_rfl) (by kernel_rfl) (fun _ _ _ h => h) (Or.inl ⟨by rfl, ?hy⟩) (by assumption) ?_
    case hy => intro wq hSw; obtain ⟨a0, a1, a2, a3, a4, a5, b0, b1, b2, b3, b4, b5, hz, hB⟩ := hSw; go_simp; try with_reducible rfl
    try simp only [Act.put, szA, szB, szC, szD, szE, szF]
    refine wpAnyH_take (i := 15) (v := ?_) rfl (by kernel_rfl) (by kernel_rfl) (by kernel_rfl) (fun _ _ _ h => h) (Or.inl ⟨by rfl, ?hy⟩) (by assumption) ?_
    case hy => intro wq hSw; obtain ⟨a0, a1, a2, a3, a4, a5, b0, b1, b2, b3, b4, b5, hz, hB⟩ := hSw; go_simp; try with_reducible rfl
    try simp only [Act.put, szA, szB, szC, szD, szE, szF]
    refine wpAnyH_take (i := 16) (v := ?_) rfl (by kernel_rfl) (by kernel_rfl) (by kernel_rfl) (fun _ _ _ h => h) (Or.inl ⟨by rfl, ?hy⟩) (by assumption) ?_
    case hy => intro wq hSw; obtain ⟨a0, a1, a2, a3, a4, a5, b0, b1, b2, b3, b4, b5, hz, hB⟩ := hSw; go_simp; try with_reducible rfl
    try simp only [Act.put, szA, szB, szC, szD, szE, szF]
    refine wpAnyH_take (i := 17) (v := ?_) rfl (by kernel_rfl) (by kernel_rfl) (by kernel_rfl) (fun _ _ _ h => h) (Or.inl ⟨by rfl, ?hy⟩) (by assumption) ?_
    case hy => intro wq hSw; obtain ⟨a0, a1, a2, a3, a4, a5, b0, b1, b2, b3, b4, b5, hz, hB⟩ := hSw; go_simp; try with_reducible rfl
    try simp only [Act.put, szA, szB, szC, szD, szE, szF]
    refine wpAnyH_take (i := 18) (v := ?_) rfl (by kernel_rfl) (by kernel_rfl) (by kernel_rfl) (fun _ _ _ h => h) (Or.inl ⟨by rfl, ?hy⟩) (by assumption) ?_
    case hy => intro wq hSw; obtain ⟨a0, a1, a2, a3, a4, a5, b0, b1, b2, b3, b4, b5, hz, hB⟩ := hSw; go_simp; try with_reducible rfl
    try simp only [Act.put, szA, szB, szC, szD, szE, szF]
    refine wpAnyH_take (i := 20) (v := ?_) rfl (by kernel_rfl) (by kernel_rfl) (by kernel_rfl) (fun _ _ _ h => h) (Or.inl ⟨by rfl, ?hy⟩) (by assumption) ?_
    case hy => intro wq hSw; obtain ⟨a0, a1, a2, a3, a4, a5, b0, b1, b2, b3, b4, b5, hz, hB⟩ := hSw; go_simp; try with_reducible rfl
    try simp only [Act.put, szA, szB, szC, szD, szE, szF]
    refine wpAnyH_take (i := 21) (v := ?_) rfl (by kernel_rfl) (by kernel_rfl) (by kernel_rfl) (fun _ _ _ h => h) (Or.inl ⟨by rfl, ?hy⟩) (by assumption) ?_
    case hy => intro wq hSw; obtain ⟨a0, a1, a2, a3, a4, a5, b0, b1, b2, b3, b4, b5, hz, hB⟩ := hSw; go_simp; try with_reducible rfl
    try simp only [Act.put, szA, szB, szC, szD, szE, szF]
    refine wpAnyH_take (i := 22) (v := ?_) rfl (by kernel_rfl) (by kernel_rfl) (by kernel_rfl) (fun _ _ _ h => h) (Or.inl ⟨by rfl, ?hy⟩) (by assumption) ?_
    case hy => intro wq hSw; obtain ⟨a0, a1, a2, a3, a4, a5, b0, b1, b2, b3, b4, b5, hz, hB⟩ := hSw; go_simp; try with_reducible rfl
    try simp only [Act.put, szA, szB, szC, szD, szE, szF]
    refine wpAnyH_take (i := 23) (v := ?_) rfl (by kernel_rfl) (by kernel_rfl) (by kernel_rfl) (fun _ _ _ h => h) (Or.inl ⟨by rfl, ?hy⟩) (by assumption) ?_
    case hy => intro wq hSw; obtain ⟨a0, a1, a2, a3, a4, a5, b0, b1, b2, b3, b4, b5, hz, hB⟩ := hSw; go_simp; try with_reducible rfl
    try simp only [Act.put, szA, szB, szC, szD, szE, szF]
    refine wpAnyH_ready (rs := [4, 26]) (by kernel_rfl) (by simp) (AllReadyH.cons rfl (fun K hK => ?_) (AllReadyH.cons rfl (fun K hK => ?_) AllReadyH.nil))
    · go_simp
      refine (C0.out _).mono ?_
      rintro e w5 ⟨rfl, rfl⟩
      try (go_wp2_with fail)
      refine hK.out _ _ hHeld (fun hHeld => ?_)
      clear hK K
      try simp only [Act.put, szA, szB, szC, szD, szE, szF]
      refine wpAnyH_ready (rs := [9, 26]) (by kernel_rfl) (by simp) (AllReadyH.cons rfl (fun K hK => ?_) (AllReadyH.cons rfl (fun K hK => ?_) AllReadyH.nil))
      · go_simp
        refine (C1.out _).mono ?_
        rintro e w5 ⟨rfl, rfl⟩
        try (go_wp2_with fail)
        refine hK.out _ _ hHeld (fun hHeld => ?_)
        clear hK K
        try simp only [Act.put, szA, szB, szC, szD, szE, szF]
        refine wpAnyH_ready (rs := [14, 26]) (by kernel_rfl) (by simp) (AllReadyH.cons rfl (fun K hK => ?_) (AllReadyH.cons rfl (fun K hK => ?_) AllReadyH.nil))
        · go_simp
          refine (C2.out _).mono ?_
          rintro e w5 ⟨rfl, rfl⟩
          try (go_wp2_with fail)
          refine hK.out _ _ hHeld (fun hHeld => ?_)
          clear hK K
          try simp only [Act.put, szA, szB, szC, szD, szE, szF]
          refine wpAnyH_ready (rs := [19, 26]) (by kernel_rfl) (by simp) (AllReadyH.cons rfl (fun K hK => ?_) (AllReadyH.cons rfl (fun K hK => ?_) AllReadyH.nil))
          · go_simp
            refine (C3.out _).mono ?_
            rintro e w5 ⟨rfl, rfl⟩
            try (go_wp2_with fail)
            refine hK.out _ _ hHeld (fun hHeld => ?_)
            clear hK K
            try simp only [Act.put, szA, szB, szC, szD, szE, szF]
            refine wpAnyH_ready (rs := [24, 26]) (by kernel_rfl) (by simp) (AllReadyH.cons rfl (fun K hK => ?_) (AllReadyH.cons rfl (fun K hK => ?_) AllReadyH.nil))
            · go_simp
              refine (C4.out _).mono ?_
              rintro e w5 ⟨rfl, rfl⟩
              try (go_wp2_with fail)
              refine hK.out _ _ hHeld (fun hHeld => ?_)
              clear hK K
              try simp only [Act.put, szA, szB, szC, szD, szE, szF]
              refine wpAnyH_take (i := 25) (v := ?_) rfl (by kernel_rfl) (by kernel_rfl) (by kernel_rfl) (fun _ _ _ h => h) (Or.inl ⟨by rfl, ?hy⟩) (by assumption) ?_
              case hy => intro wq hSw; obtain ⟨a0, a1, a2, a3, a4, a5, b0, b1, b2, b3, b4, b5, hz, hB⟩ := hSw; go_simp; try with_reducible rfl
              try simp only [Act.put, szA, szB, szC, szD, szE, szF]
              refine wpAnyH_ready (rs := [26]) (by kernel_rfl) (by simp) (AllReadyH.cons rfl (fun K hK => ?_) AllReadyH.nil)
              go_simp
              try (go_wp2_with fail)
              refine hK.out _ _ (hHeld.alloc _) (fun hHeld => ?_)
              clear hK K
              try simp only [Act.put, szA, szB, szC, szD, szE, szF]
              refine wpAnyH_ready (rs := [27]) (by kernel_rfl) (by simp) (AllReadyH.cons rfl (fun K hK => ?_) AllReadyH.nil)
              go_simp
              try (go_wp2_with fail)
              have hSL := (HSW.out.alloc (.cells #[.int .i64 P0, .int .i64 P1, .int .i64 P2, .int .i64 P3, .int .i64 P4, .int .i64 0] 92)).drew
              refine hK.out _ _ hSL (fun hHeld => ?_)
              clear hK K
              try simp only [Act.put, szA, szB, szC, szD, szE, szF]
              refine wpAnyH_done (by kernel_rfl) ?_ _
              refine NoPanic.normal ?_
              refine ⟨rfl, .pointer (some ⟨N, 0, none⟩), .int .i64 x.p, .pointer (some ⟨N + 1, 0, none⟩), .int .i64 y.p, .int .i64 P0, .pointer (some ⟨N, 1, none⟩), .int .i64 x.b, .pointer (some ⟨N + 1, 1, none⟩), .int .i64 y.b, .int .i64 P1, .pointer (some ⟨N, 2, none⟩), .int .i64 x.d, .pointer (some ⟨N + 1, 2, none⟩), .int .i64 y.d, .int .i64 P2, .pointer (some ⟨N, 3, none⟩), .int .i64 x.e, .pointer (some ⟨N + 1, 3, none⟩), .int .i64 y.e, .int .i64 P3, .pointer (some ⟨N, 4, none⟩), .int .i64 x.r, .pointer (some ⟨N + 1, 4, none⟩), .int .i64 y.r, .int .i64 P4, .agg #[.int .i64 P0, .int .i64 P1, .int .i64 P2, .int .i64 P3, .int .i64 P4, .int .i64 0], ?_, rfl⟩
              simp only [Act.put, List.setIfInBounds_toArray, List.set_cons_zero, List.set_cons_succ]
            · go_simp
              try (go_wp2_with fail)
              refine hK.out _ _ (hHeld.alloc _) (fun hHeld => ?_)
              clear hK K
              try simp only [Act.put, szA, szB, szC, szD, szE, szF]
              refine wpAnyH_ready (rs := [24]) (by kernel_rfl) (by simp) (AllReadyH.cons rfl (fun K hK => ?_) AllReadyH.nil)
              go_simp
              refine (C4.out _).mono ?_
              rintro e w5 ⟨rfl, rfl⟩
              try (go_wp2_with fail)
              refine hK.out _ _ hHeld (fun hHeld => ?_)
              clear hK K
              try simp only [Act.put, szA, szB, szC, szD, szE, szF]
              refine wpAnyH_take (i := 25) (v := ?_) rfl (by kernel_rfl) (by kernel_rfl) (by kernel_rfl) (fun _ _ _ h => h) (Or.inl ⟨by rfl, ?hy⟩) (by assumption) ?_
              case hy => intro wq hSw; obtain ⟨a0, a1, a2, a3, a4, a5, b0, b1, b2, b3, b4, b5, hz, hB⟩ := hSw; go_simp; try with_reducible rfl
              try simp only [Act.put, szA, szB, szC, szD, szE, szF]
              refine wpAnyH_ready (rs := [27]) (by kernel_rfl) (by simp) (AllReadyH.cons rfl (fun K hK => ?_) AllReadyH.nil)
              go_simp
              try (go_wp2_with fail)
              have hSL := (HSW.out.alloc (.cells #[.int .i64 P0, .int .i64 P1, .int .i64 P2, .int .i64 P3, .int .i64 P4, .int .i64 0] 92)).drew
              refine hK.out _ _ hSL (fun hHeld => ?_)
              clear hK K
              try simp only [Act.put, szA, szB, szC, szD, szE, szF]
              refine wpAnyH_done (by kernel_rfl) ?_ _
              refine NoPanic.normal ?_
              refine ⟨rfl, .pointer (some ⟨N, 0, none⟩), .int .i64 x.p, .pointer (some ⟨N + 1, 0, none⟩), .int .i64 y.p, .int .i64 P0, .pointer (some ⟨N, 1, none⟩), .int .i64 x.b, .pointer (some ⟨N + 1, 1, none⟩), .int .i64 y.b, .int .i64 P1, .pointer (some ⟨N, 2, none⟩), .int .i64 x.d, .pointer (some ⟨N + 1, 2, none⟩), .int .i64 y.d, .int .i64 P2, .pointer (some ⟨N, 3, none⟩), .int .i64 x.e, .pointer (some ⟨N + 1, 3, none⟩), .int .i64 y.e, .int .i64 P3, .pointer (some ⟨N, 4, none⟩), .int .i64 x.r, .pointer (some ⟨N + 1, 4, none⟩), .int .i64 y.r, .int .i64 P4, .agg #[.int .i64 P0, .int .i64 P1, .int .i64 P2, .int .i64 P3, .int .i64 P4, .int .i64 0], ?_, rfl⟩
              simp only [Act.put, List.setIfInBounds_toArray, List.set_cons_zero, List.set_cons_succ]
          · go_simp
            try (go_wp2_with fail)
            refine hK.out _ _ (hHeld.alloc _) (fun hHeld => ?_)
            clear hK K
            try simp only [Act.put, szA, szB, szC, szD, szE, szF]
            refine wpAnyH_ready (rs := [19]) (by kernel_rfl) (by simp) (AllReadyH.cons rfl (fun K hK => ?_) AllReadyH.nil)
            go_simp
            refine (C3.out _).mono ?_
            rintro e w5 ⟨rfl, rfl⟩
            try (go_wp2_with fail)
            refine hK.out _ _ hHeld (fun hHeld => ?_)
            clear hK K
            try simp only [Act.put, szA, szB, szC, szD, szE, szF]
            refine wpAnyH_ready (rs := [24]) (by kernel_rfl) (by simp) (AllReadyH.cons rfl (fun K hK => ?_) AllReadyH.nil)
            go_simp
            refine (C4.out _).mono ?_
            rintro e w5 ⟨rfl, rfl⟩
            try (go_wp2_with fail)
            refine hK.out _ _ hHeld (fun hHeld => ?_)
            clear hK K
            try simp only [Act.put, szA, szB, szC, szD, szE, szF]
            refine wpAnyH_take (i := 25) (v := ?_) rfl (by kernel_rfl) (by kernel_rfl) (by kernel_rfl) (fun _ _ _ h => h) (Or.inl ⟨by rfl, ?hy⟩) (by assumption) ?_
            case hy => intro wq hSw; obtain ⟨a0, a1, a2, a3, a4, a5, b0, b1, b2, b3, b4, b5, hz, hB⟩ := hSw; go_simp; try with_reducible rfl
            try simp only [Act.put, szA, szB, szC, szD, szE, szF]
            refine wpAnyH_ready (rs := [27]) (by kernel_rfl) (by simp) (AllReadyH.cons rfl (fun K hK => ?_) AllReadyH.nil)
            go_simp
            try (go_wp2_with fail)
            have hSL := (HSW.out.alloc (.cells #[.int .i64 P0, .int .i64 P1, .int .i64 P2, .int .i64 P3, .int .i64 P4, .int .i64 0] 92)).drew
            refine hK.out _ _ hSL (fun hHeld => ?_)
            clear hK K
            try simp only [Act.put, szA, szB, szC, szD, szE, szF]
            refine wpAnyH_done (by kernel_rfl) ?_ _
            refine NoPanic.normal ?_
            refine ⟨rfl, .pointer (some ⟨N, 0, none⟩), .int .i64 x.p, .pointer (some ⟨N + 1, 0, none⟩), .int .i64 y.p, .int .i64 P0, .pointer (some ⟨N, 1, none⟩), .int .i64 x.b, .pointer (some ⟨N + 1, 1, none⟩), .int .i64 y.b, .int .i64 P1, .pointer (some ⟨N, 2, none⟩), .int .i64 x.d, .pointer (some ⟨N + 1, 2, none⟩), .int .i64 y.d, .int .i64 P2, .pointer (some ⟨N, 3, none⟩), .int .i64 x.e, .pointer (some ⟨N + 1, 3, none⟩), .int .i64 y.e, .int .i64 P3, .pointer (some ⟨N, 4, none⟩), .int .i64 x.r, .pointer (some ⟨N + 1, 4, none⟩), .int .i64 y.r, .int .i64 P4, .agg #[.int .i64 P0, .int .i64 P1, .int .i64 P2, .int .i64 P3, .int .i64 P4, .int .i64 0], ?_, rfl⟩
            simp only [Act.put, List.setIfInBounds_toArray, List.set_cons_zero, List.set_cons_succ]
        · go_simp
          try (go_wp2_with fail)
          refine hK.out _ _ (hHeld.alloc _) (fun hHeld => ?_)
          clear hK K
          try simp only [Act.put, szA, szB, szC, szD, szE, szF]
          refine wpAnyH_ready (rs := [14]) (by kernel_rfl) (by simp) (AllReadyH.cons rfl (fun K hK => ?_) AllReadyH.nil)
          go_simp
          refine (C2.out _).mono ?_
          rintro e w5 ⟨rfl, rfl⟩
          try (go_wp2_with fail)
          refine hK.out _ _ hHeld (fun hHeld => ?_)
          clear hK K
          try simp only [Act.put, szA, szB, szC, szD, szE, szF]
          refine wpAnyH_ready (rs := [19]) (by kernel_rfl) (by simp) (AllReadyH.cons rfl (fun K hK => ?_) AllReadyH.nil)
          go_simp
          refine (C3.out _).mono ?_
          rintro e w5 ⟨rfl, rfl⟩
          try (go_wp2_with fail)
          refine hK.out _ _ hHeld (fun hHeld => ?_)
          clear hK K
          try simp only [Act.put, szA, szB, szC, szD, szE, szF]
          refine wpAnyH_ready (rs := [24]) (by kernel_rfl) (by simp) (AllReadyH.cons rfl (fun K hK => ?_) AllReadyH.nil)
          go_simp
          refine (C4.out _).mono ?_
          rintro e w5 ⟨rfl, rfl⟩
          try (go_wp2_with fail)
          refine hK.out _ _ hHeld (fun hHeld => ?_)
          clear hK K
          try simp only [Act.put, szA, szB, szC, szD, szE, szF]
          refine wpAnyH_take (i := 25) (v := ?_) rfl (by kernel_rfl) (by kernel_rfl) (by kernel_rfl) (fun _ _ _ h => h) (Or.inl ⟨by rfl, ?hy⟩) (by assumption) ?_
          case hy => intro wq hSw; obtain ⟨a0, a1, a2, a3, a4, a5, b0, b1, b2, b3, b4, b5, hz, hB⟩ := hSw; go_simp; try with_reducible rfl
          try simp only [Act.put, szA, szB, szC, szD, szE, szF]
          refine wpAnyH_ready (rs := [27]) (by kernel_rfl) (by simp) (AllReadyH.cons rfl (fun K hK => ?_) AllReadyH.nil)
          go_simp
          try (go_wp2_with fail)
          have hSL := (HSW.out.alloc (.cells #[.int .i64 P0, .int .i64 P1, .int .i64 P2, .int .i64 P3, .int .i64 P4, .int .i64 0] 92)).drew
          refine hK.out _ _ hSL (fun hHeld => ?_)
          clear hK K
          try simp only [Act.put, szA, szB, szC, szD, szE, szF]
          refine wpAnyH_done (by kernel_rfl) ?_ _
          refine NoPanic.normal ?_
          refine ⟨rfl, .pointer (some ⟨N, 0, none⟩), .int .i64 x.p, .pointer (some ⟨N + 1, 0, none⟩), .int .i64 y.p, .int .i64 P0, .pointer (some ⟨N, 1, none⟩), .int .i64 x.b, .pointer (some ⟨N + 1, 1, none⟩), .int .i64 y.b, .int .i64 P1, .pointer (some ⟨N, 2, none⟩), .int .i64 x.d, .pointer (some ⟨N + 1, 2, none⟩), .int .i64 y.d, .int .i64 P2, .pointer (some ⟨N, 3, none⟩), .int .i64 x.e, .pointer (some ⟨N + 1, 3, none⟩), .int .i64 y.e, .int .i64 P3, .pointer (some ⟨N, 4, none⟩), .int .i64 x.r, .pointer (some ⟨N + 1, 4, none⟩), .int .i64 y.r, .int .i64 P4, .agg #[.int .i64 P0, .int .i64 P1, .int .i64 P2, .int .i64 P3, .int .i64 P4, .int .i64 0], ?_, rfl⟩
          simp only [Act.put, List.setIfInBounds_toArray, List.set_cons_zero, List.set_cons_succ]
      · go_simp
        try (go_wp2_with fail)
        refine hK.out _ _ (hHeld.alloc _) (fun hHeld => ?_)
        clear hK K
        try simp only [Act.put, szA, szB, szC, szD, szE, szF]
        refine wpAnyH_ready (rs := [9]) (by kernel_rfl) (by simp) (AllReadyH.cons rfl (fun K hK => ?_) AllReadyH.nil)
        go_simp
        refine (C1.out _).mono ?_
        rintro e w5 ⟨rfl, rfl⟩
        try (go_wp2_with fail)
        refine hK.out _ _ hHeld (fun hHeld => ?_)
        clear hK K
        try simp only [Act.put, szA, szB, szC, szD, szE, szF]
        refine wpAnyH_ready (rs := [14]) (by kernel_rfl) (by simp) (AllReadyH.cons rfl (fun K hK => ?_) AllReadyH.nil)
        go_simp
        refine (C2.out _).mono ?_
        rintro e w5 ⟨rfl, rfl⟩
        try (go_wp2_with fail)
        refine hK.out _ _ hHeld (fun hHeld => ?_)
        clear hK K
        try simp only [Act.put, szA, szB, szC, szD, szE, szF]
        refine wpAnyH_ready (rs := [19]) (by kernel_rfl) (by simp) (AllReadyH.cons rfl (fun K hK => ?_) AllReadyH.nil)
        go_simp
        refine (C3.out _).mono ?_
        rintro e w5 ⟨rfl, rfl⟩
        try (go_wp2_with fail)
        refine hK.out _ _ hHeld (fun hHeld => ?_)
        clear hK K
        try simp only [Act.put, szA, szB, szC, szD, szE, szF]
        refine wpAnyH_ready (rs := [24]) (by kernel_rfl) (by simp) (AllReadyH.cons rfl (fun K hK => ?_) AllReadyH.nil)
        go_simp
        refine (C4.out _).mono ?_
        rintro e w5 ⟨rfl, rfl⟩
        try (go_wp2_with fail)
        refine hK.out _ _ hHeld (fun hHeld => ?_)
        clear hK K
        try simp only [Act.put, szA, szB, szC, szD, szE, szF]
        refine wpAnyH_take (i := 25) (v := ?_) rfl (by kernel_rfl) (by kernel_rfl) (by kernel_rfl) (fun _ _ _ h => h) (Or.inl ⟨by rfl, ?hy⟩) (by assumption) ?_
        case hy => intro wq hSw; obtain ⟨a0, a1, a2, a3, a4, a5, b0, b1, b2, b3, b4, b5, hz, hB⟩ := hSw; go_simp; try with_reducible rfl
        try simp only [Act.put, szA, szB, szC, szD, szE, szF]
        refine wpAnyH_ready (rs := [27]) (by kernel_rfl) (by simp) (AllReadyH.cons rfl (fun K hK => ?_) AllReadyH.nil)
        go_simp
        try (go_wp2_with fail)
        have hSL := (HSW.out.alloc (.cells #[.int .i64 P0, .int .i64 P1, .int .i64 P2, .int .i64 P3, .int .i64 P4, .int .i64 0] 92)).drew
        refine hK.out _ _ hSL (fun hHeld => ?_)
        clear hK K
        try simp only [Act.put, szA, szB, szC, szD, szE, szF]
        refine wpAnyH_done (by kernel_rfl) ?_ _
        refine NoPanic.normal ?_
        refine ⟨rfl, .pointer (some ⟨N, 0, none⟩), .int .i64 x.p, .pointer (some ⟨N + 1, 0, none⟩), .int .i64 y.p, .int .i64 P0, .pointer (some ⟨N, 1, none⟩), .int .i64 x.b, .pointer (some ⟨N + 1, 1, none⟩), .int .i64 y.b, .int .i64 P1, .pointer (some ⟨N, 2, none⟩), .int .i64 x.d, .pointer (some ⟨N + 1, 2, none⟩), .int .i64 y.d, .int .i64 P2, .pointer (some ⟨N, 3, none⟩), .int .i64 x.e, .pointer (some ⟨N + 1, 3, none⟩), .int .i64 y.e, .int .i64 P3, .pointer (some ⟨N, 4, none⟩), .int .i64 x.r, .pointer (some ⟨N + 1, 4, none⟩), .int .i64 y.r, .int .i64 P4, .agg #[.int .i64 P0, .int .i64 P1, .int .i64 P2, .int .i64 P3, .int .i64 P4, .int .i64 0], ?_, rfl⟩
        simp only [Act.put, List.setIfInBounds_toArray, List.set_cons_zero, List.set_cons_succ]
    · go_simp
      try (go_wp2_with fail)
      refine hK.out _ _ (hHeld.alloc _) (fun hHeld => ?_)
      clear hK K
      try simp only [Act.put, szA, szB, szC, szD, szE, szF]
      refine wpAnyH_ready (rs := [4]) (by kernel_rfl) (by simp) (AllReadyH.cons rfl (fun K hK => ?_) AllReadyH.nil)
      go_simp
      refine (C0.out _).mono ?_
      rintro e w5 ⟨rfl, rfl⟩
      try (go_wp2_with fail)
      refine hK.out _ _ hHeld (fun hHeld => ?_)
      clear hK K
      try simp only [Act.put, szA, szB, szC, szD, szE, szF]
      refine wpAnyH_ready (rs := [9]) (by kernel_rfl) (by simp) (AllReadyH.cons rfl (fun K hK => ?_) AllReadyH.nil)
      go_simp
      refine (C1.out _).mono ?_
      rintro e w5 ⟨rfl, rfl⟩
      try (go_wp2_with fail)
      refine hK.out _ _ hHeld (fun hHeld => ?_)
      clear hK K
      try simp only [Act.put, szA, szB, szC, szD, szE, szF]
      refine wpAnyH_ready (rs := [14]) (by kernel_rfl) (by simp) (AllReadyH.cons rfl (fun K hK => ?_) AllReadyH.nil)
      go_simp
      refine (C2.out _).mono ?_
      rintro e w5 ⟨rfl, rfl⟩
      try (go_wp2_with fail)
      refine hK.out _ _ hHeld (fun hHeld => ?_)
      clear hK K
      try simp only [Act.put, szA, szB, szC, szD, szE, szF]
      refine wpAnyH_ready (rs := [19]) (by kernel_rfl) (by simp) (AllReadyH.cons rfl (fun K hK => ?_) AllReadyH.nil)
      go_simp
      refine (C3.out _).mono ?_
      rintro e w5 ⟨rfl, rfl⟩
      try (go_wp2_with fail)
      refine hK.out _ _ hHeld (fun hHeld => ?_)
      clear hK K
      try simp only [Act.put, szA, szB, szC, szD, szE, szF]
      refine wpAnyH_ready (rs := [24]) (by kernel_rfl) (by simp) (AllReadyH.cons rfl (fun K hK => ?_) AllReadyH.nil)
      go_simp
      refine (C4.out _).mono ?_
      rintro e w5 ⟨rfl, rfl⟩
      try (go_wp2_with fail)
      refine hK.out _ _ hHeld (fun hHeld => ?_)
      clear hK K
      try simp only [Act.put, szA, szB, szC, szD, szE, szF]
      refine wpAnyH_take (i := 25) (v := ?_) rfl (by kernel_rfl) (by kernel_rfl) (by kernel_rfl) (fun _ _ _ h => h) (Or.inl ⟨by rfl, ?hy⟩) (by assumption) ?_
      case hy => intro wq hSw; obtain ⟨a0, a1, a2, a3, a4, a5, b0, b1, b2, b3, b4, b5, hz, hB⟩ := hSw; go_simp; try with_reducible rfl
      try simp only [Act.put, szA, szB, szC, szD, szE, szF]
      refine wpAnyH_ready (rs := [27]) (by kernel_rfl) (by simp) (AllReadyH.cons rfl (fun K hK => ?_) AllReadyH.nil)
      go_simp
      try (go_wp2_with fail)
      have hSL := (HSW.out.alloc (.cells #[.int .i64 P0, .int .i64 P1, .int .i64 P2, .int .i64 P3, .int .i64 P4, .int .i64 0] 92)).drew
      refine hK.out _ _ hSL (fun hHeld => ?_)
      clear hK K
      try simp only [Act.put, szA, szB, szC, szD, szE, szF]
      refine wpAnyH_done (by kernel_rfl) ?_ _
      refine NoPanic.normal ?_
      refine ⟨rfl, .pointer (some ⟨N, 0, none⟩), .int .i64 x.p, .pointer (some ⟨N + 1, 0, none⟩), .int .i64 y.p, .int .i64 P0, .pointer (some ⟨N, 1, none⟩), .int .i64 x.b, .pointer (some ⟨N + 1, 1, none⟩), .int .i64 y.b, .int .i64 P1, .pointer (some ⟨N, 2, none⟩), .int .i64 x.d, .pointer (some ⟨N + 1, 2, none⟩), .int .i64 y.d, .int .i64 P2, .pointer (some ⟨N, 3, none⟩), .int .i64 x.e, .pointer (some ⟨N + 1, 3, none⟩), .int .i64 y.e, .int .i64 P3, .pointer (some ⟨N, 4, none⟩), .int .i64 x.r, .pointer (some ⟨N + 1, 4, none⟩), .int .i64 y.r, .int .i64 P4, .agg #[.int .i64 P0, .int .i64 P1, .int .i64 P2, .int .i64 P3, .int .i64 P4, .int .i64 0], ?_, rfl⟩
      simp only [Act.put, List.setIfInBounds_toArray, List.set_cons_zero, List.set_cons_succ]
  · rintro a' w5 ⟨x6, x7, x8, x9, x10, x11, x12, x13, x14, x15, x16, x17, x18, x19, x20, x21, x22, x23, x24, x25, x26, x27, x28, x29, x30, x31, rfl, rfl⟩
    try simp only [Act.put, szA, szB, szC, szD, szE, szF]
    have hLF := two_leaf (P0 := P0) (P1 := P1) (P2 := P2) (P3 := P3) (P4 := P4) HSZ.out HG2.out
    have hSL := (HSW.out.alloc (.cells #[.int .i64 P0, .int .i64 P1, .int .i64 P2, .int .i64 P3, .int .i64 P4, .int .i64 0] 92)).drew
    generalize (W0.alloc (.cells #[.int .i64 P0, .int .i64 P1, .int .i64 P2, .int .i64 P3, .int .i64 P4, .int .i64 0] 92)).drew = WL at *
    have hN : N < WL.heap.size := by have := hLF.lt; have := hLF.sz; omega
    have hN1 : N + 1 < WL.heap.size := by have := hLF.lt; have := hLF.sz; omega
    have hN2 : N + 1 + 1 < WL.heap.size := by have := hLF.lt; have := hLF.sz; omega
    have hS0 := HSZ.out
    have e1 : ¬ N = W0.heap.size := by omega
    have e2 : ¬ N + 1 = W0.heap.size := by omega
    have e3 : ¬ N + 1 + 1 = W0.heap.size := by omega
    have e4 : ¬ W0.heap.size = N + 1 + 1 := by omega
    clear HSW C0 C1 C2 C3 C4 HFZ HR
    have HNW := HNN
    have hNZ : N + 1 + 1 < W0.heap.size := by have := hLF.sz; omega
    have HBW2 := HBW
    clear HNN HSZ HG2 hS0
    obtain ⟨Z, hZ⟩ : ∃ Z, W0.heap.size = Z := ⟨_, rfl⟩
    have HZ := Lib.hid hZ
    simp only [hZ] at hLF e1 e2 e3 e4 hNZ ⊢
    clear hZ
    obtain ⟨a0, a1, a2, a3, a4, a5, b0, b1, b2, b3, b4, b5, hz, hB⟩ := hSL
    obtain ⟨r0, r1, r2, r3, r4, r5, n0, n1, n2, n3, n4, n5, fr, fn, sz, lt, g2, be⟩ := hLF
    have BE := Lib.hid be
    have G2 := Lib.hid g2
    clear be g2 hB sz
    by_cases q1 : x.d = 0
    · have q2 : (x.d == 0) = true := by simp [q1]
      have HMM := Lib.hid (show M = y.m by rw [HM.out, if_pos q1])
      clear HM q1
      go_wp2_with (fail)
      obtain ⟨hh, ht⟩ := two_end G2.out e4 HNW.out HBW2.out BE.out HZ.out hNZ y.m P0 P1 P2 P3 P4
      rw [HMM.out]
      refine bodyPost_ret (results_cell_row (P := Tryz.prog) rfl _ _ (N + 1 + 1) 92 #[.int .i64 P0, .int .i64 P1, .int .i64 P2, .int .i64 P3, .int .i64 P4, .int .i64 y.m] (0, 0) _ (by rfl) ?hh Tryz.underlying92 rfl (by kernel_rfl)) rfl ?_
      case hh => exact hh
      exact ⟨rfl, ht⟩
    · have q2 : (x.d == 0) = false := by simp [q1]
      by_cases q3 : y.d = 0
      · have q4 : (y.d == 0) = true := by simp [q3]
        have HMM := Lib.hid (show M = x.m by rw [HM.out, if_neg q1, if_pos q3])
        clear HM q1 q3
        go_wp2_with (fail)
        obtain ⟨hh, ht⟩ := two_end G2.out e4 HNW.out HBW2.out BE.out HZ.out hNZ x.m P0 P1 P2 P3 P4
        rw [HMM.out]
        refine bodyPost_ret (results_cell_row (P := Tryz.prog) rfl _ _ (N + 1 + 1) 92 #[.int .i64 P0, .int .i64 P1, .int .i64 P2, .int .i64 P3, .int .i64 P4, .int .i64 x.m] (0, 0) _ (by rfl) ?hh Tryz.underlying92 rfl (by kernel_rfl)) rfl ?_
        case hh => exact hh
        exact ⟨rfl, ht⟩
      · have q4 : (y.d == 0) = false := by simp [q3]
        have HMM := Lib.hid (show M = min x.m y.m by rw [HM.out, if_neg q1, if_neg q3]; split <;> omega)
        clear HM q1 q3
        go_wp2_with (fail)
        obtain ⟨hh, ht⟩ := two_end G2.out e4 HNW.out HBW2.out BE.out HZ.out hNZ (min x.m y.m) P0 P1 P2 P3 P4
        rw [HMM.out]
        refine bodyPost_ret (results_cell_row (P := Tryz.prog) rfl _ _ (N + 1 + 1) 92 #[.int .i64 P0, .int .i64 P1, .int .i64 P2, .int .i64 P3, .int .i64 P4, .int .i64 (min x.m y.m)] (0, 0) _ (by rfl) ?hh Tryz.underlying92 rfl (by kernel_rfl)) rfl ?_
        case hh => exact hh
        exact ⟨rfl, ht⟩
end Go.Proofs.YtemlafbkkaloiaaGreat
