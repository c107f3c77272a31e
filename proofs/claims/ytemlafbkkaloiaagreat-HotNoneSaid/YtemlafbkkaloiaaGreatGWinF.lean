/- Texts of one chain, one behind the other: WinF, WinG, WinH, WinI, HtA, HtB, HtC. -/
import Derived.RangeFuncNested
import Derived.RangeFuncBound
import Derived.RangeFuncCalls
import Derived.RangeFuncLeaves
import Derived.Shelf.Abstract
import Derived.OwnWalkIn
import Derived.TacticsInMore
import Derived.LoopNIn
import Derived.LoopIn
import Derived.Test.YtemlafbkkaloiaaGreatGWinD
import Derived.Test.YtemlafbkkaloiaaGreatHeldIn
import Derived.Laws.Rows
import Derived.Test.YtemlafbkkaloiaaGreatGRuOf
import Derived.Test.YtemlafbkkaloiaaGreatGLruA
import Derived.Test.YtemlafbkkaloiaaGreatGSkF
import Derived.Deep.RegionHeld3

/- window: the buckets of a window, one behind the other. -/
namespace Go.Proofs.YtemlafbkkaloiaaGreat
open Go.RowKit Go.Shelf
set_option linter.unusedVariables false
set_option linter.unusedSimpArgs false
attribute [local go_sem] Oper.semAt_some

/-- The buckets from lo on, n of them, in which something is noted. -/
def bksW (f : Int → Option CntS) (lo : Int) : Nat → List (Int × CntS)
  | 0 => []
  | n + 1 => bksW f lo n ++ (match f (lo + n) with | some c => [(lo + n, c)] | none => [])
theorem bksW_len (f : Int → Option CntS) (lo : Int) : ∀ n, (bksW f lo n).length ≤ n
  | 0 => Nat.le_refl _
  | n + 1 => by
    have := bksW_len f lo n
    rw [bksW]
    cases f (lo + n) <;> simp <;> omega
/-- What a round that goes on keeps. -/
structure KeepW (n1 s : Nat) (W W' : World) : Prop where
  size : W.heap.size ≤ W'.heap.size
  low : ∀ i : Nat, i < n1 → i ≠ s → W'.heap[i]? = W.heap[i]?
  cells : ∀ (i : Nat) (o : Obj), W.heap[i]? = some o → o.isCells = true → i ≠ s → W'.heap[i]? = some o
theorem keepW_t {n1 s : Nat} {A B C : World} (h : KeepW n1 s A B) (k : KeepW n1 s B C) : KeepW n1 s A C := ⟨Nat.le_trans h.1 k.1, fun i hi hn => (k.2 i hi hn).trans (h.2 i hi hn), fun i o h1 h2 h3 => k.3 i o (h.3 i o h1 h2 h3) h2 h3⟩
theorem keepW_b {n1 s : Nat} {w : World} (hn : n1 ≤ w.heap.size) (W : World) (l : Nat) (o o' : Obj) (hl : w.heap.size ≤ l) (h : W.heap[l]? = some o) (hc : o.isCells = false) (_ : o.isWalk = false) : KeepW n1 s W (W.putObj l o') :=
  ⟨(grownBy_putObj' W l o').size, fun i hi _ => (grownBy_putObj' W l o').block i (by have := (Array.getElem?_eq_some_iff.1 h).1; omega) (by simp; omega), fun i x hx hxc _ => by
    refine ((grownBy_putObj' W l o').block i (Array.getElem?_eq_some_iff.1 hx).1 (fun e => ?_)).trans hx
    cases e
    rw [h] at hx; cases hx; rw [hc] at hxc; cases hxc⟩
theorem KeepW.cell {n1 s : Nat} {W W' : World} (h : KeepW n1 s W W') {q o : Nat} {v : Value} (hq : q ≠ s) (hv : W.cell? ⟨q, o, none⟩ = some v) : W'.cell? ⟨q, o, none⟩ = some v := by
  obtain ⟨x, hx⟩ : ∃ x, W.heap[q]? = some x := ⟨_, Array.getElem?_eq_getElem (World.block_lt_of_cell? W _ hv)⟩
  have hc : x.isCells = true := by
    have hv' := hv
    simp only [World.cell?, hx] at hv'
    cases x <;> simp [Obj.isCells] at hv' ⊢
  exact (World.cell?_of_block (w := W) (a := ⟨q, o, none⟩) ((h.cells q x hx hc hq).trans hx.symm)).trans hv
def bkV (D : Int) (x : Int × CntS) : Value := .agg #[.int .i64 (x.1 * D), .int .i64 x.2.p, .int .i64 x.2.b, .int .i64 x.2.d, .int .i64 x.2.e, .int .i64 x.2.r, .int .i64 x.2.m]
theorem grown_drewN (w : World) (n : Nat) : w.grownBy (w.drewN n) none := ⟨rfl, rfl, rfl, Nat.le_refl _, fun _ _ _ => rfl⟩

/-- What the loop's body may know of what it is handed. -/
def GoodW (D : Int) (x : Int × CntS) : Prop := RightC x.2 ∧ 0 ≤ x.1 * D ∧ x.1 * D ≤ 1152921504606846976
set_option maxHeartbeats 6400000 in
set_option maxRecDepth 100000 in
theorem wat1_in {p m : Nat} {W B last at_ : Int} {f : Int → Option CntS} (a0 : 0 ≤ at_) (a1 : at_ ≤ 1152921504606846976) (n : Nat) (hn : 3 ≤ n) (n1 s bp ba : Nat) (hp : p < n1 ∧ p ≠ s) (hm : m < n1 ∧ m ≠ s) (hbp : bp < n1 ∧ bp ≠ s) (hba : ba < n1 ∧ ba ≠ s) (hs : s < n1) (K : Int) (hK : at_ / (W / B) = K) (cnt : Nat) (lo : Int)
    (hlo : lo = max 0 (K - B + 1)) (hcnt : (cnt : Int) = K - lo + 1) (l : Nat) (J Jx : List (Int × CntS) → World → Prop) (wS : World) (h : WinAt wS p m W B last f) (hn1 : n1 ≤ wS.heap.size) (hcp : wS.cell? ⟨bp, 0, none⟩ = some (.pointer (some ⟨p, 0, none⟩))) (hca : wS.cell? ⟨ba, 0, none⟩ = some (.int .i64 at_))
    (hJ : AbidesFrom wS.heap.size J)
    (hY : ∀ pre x W1, GoodW (W / B) x → J pre W1 → pre.length < 61 → YieldAt Fence.wide (n - 1) Tryz.prog l #[bkV (W / B) x] W1 fun e W' =>
      (e = .returned (.bool true) ∧ J (pre ++ [x]) W' ∧ KeepW n1 s W1 W') ∨ (e = .returned (.bool false) ∧ Jx (pre ++ [x]) W'))
    (h0 : J [] wS) :
    CallsIn Fence.wide n Tryz.prog 115 #[.func (.yield l) #[] #[], .pointer (some ⟨bp, 0, none⟩), .pointer (some ⟨ba, 0, none⟩)] wS fun e W' => (∃ v, e = .returned v) ∧
      ((∃ ys, ys = bksW f lo cnt ∧ J ys W') ∨ (∃ pre : List (Int × CntS), True ∧ Jx pre W')) := by
  have HBK := Lib.hid (fun (wx : World) (hx : WinAt wx p m W B last f) => wbucket_any p W B at_ h.shape a0 (by omega) wx hx.cells.1 hx.cells.2.1)
  have HH := Lib.hid h
  have HJ := Lib.hid hJ
  have HY := Lib.hid hY
  have H0 := Lib.hid h0
  have hb0 := h.shape.b0
  have hb1 := h.shape.b1
  have hslot := h.shape.slot
  have hsle := h.shape.le
  have hK0 : 0 ≤ K := by rw [← hK]; exact Int.ediv_nonneg a0 (by omega)
  have hK1 : K ≤ at_ := by rw [← hK]; exact Int.ediv_le_self _ a0
  have hKm : ∀ i, 0 ≤ i → i ≤ K → 0 ≤ i * (W / B) ∧ i * (W / B) ≤ at_ := fun i i0 i1 => by
    have e := Int.mul_ediv_add_emod at_ (W / B)
    rw [hK] at e
    have e2 := Int.emod_nonneg at_ (show W / B ≠ 0 by omega)
    have e3 := Int.mul_le_mul_of_nonneg_right i1 (show 0 ≤ W / B by omega)
    have e4 := Int.mul_nonneg i0 (show 0 ≤ W / B by omega)
    rw [Int.mul_comm (W / B) K] at e
    omega
  have HKM := Lib.hid hKm
  have q1 : W.tdiv B = W / B := Int.tdiv_eq_ediv_of_nonneg (by have := h.shape.w0; omega)
  rw [hK] at HBK
  have HLO := Lib.hid hlo
  have HCNT := Lib.hid hcnt
  obtain ⟨c0, c1, c2, c3⟩ := h.cells
  obtain ⟨D, hD⟩ : ∃ D, W / B = D := ⟨_, rfl⟩
  rw [hD] at HY HKM q1 hslot hsle
  have hBne : (B == 0) = false := by rw [beq_eq_false_iff_ne]; omega
  have hBne1 : (B == -1) = false := by rw [beq_eq_false_iff_ne]; omega
  have hBz : ¬ B = 0 := by omega
  have hwD : IntKind.i64.wrap D = D := IntWalk.i64_in _ (by omega)
  have HS := Lib.hid hs
  have hlo0 : 0 ≤ lo := by rw [hlo]; omega
  have hlo1 : K - B + 1 ≤ lo := by rw [hlo]; omega
  have hlo2 : lo ≤ K := by rw [hlo]; omega
  have HPW := Lib.hid hp
  have HMW := Lib.hid hm
  have HBP := Lib.hid hbp
  have HBA := Lib.hid hba
  have HN1 := Lib.hid hn1
  have HCP := Lib.hid hcp
  have HCA := Lib.hid hca
  have hmax : max 0 (K - B + 1) = lo := hlo.symm
  clear h hJ hY h0 hK hKm hD hlo hcnt hp hm hbp hba hn1
  refine callsIn_of_wp Tryz.func115 rfl trivial ?_ rfl
  simp only [Tryz.ntmps115, List.size_toArray, List.length_cons, List.length_nil, Nat.reduceAdd, Nat.reduceSub, Array.replicate_succ, Array.replicate_zero, List.push_toArray, List.append_toArray, List.nil_append, List.cons_append]
  gi_wp2
  refine ⟨trivial, fun _ => by omega, (callsIn_wide.2 (HBK.out wS HH.out)).mono ?_⟩
  rintro e wb ⟨rfl, nq, hq⟩
  have hgb := grown_drewN wS nq
  rw [← hq] at hgb
  have HJB := Lib.hid (HJ.out [] wS wb none H0.out hgb (by simp))
  have hkb : ∀ i : Nat, wb.heap[i]? = wS.heap[i]? := fun i => by rw [hq]; rfl
  have hwb := HH.out.kept (hkb p) (hkb m)
  have HWB := Lib.hid hwb
  have HZB := Lib.hid (show wb.heap.size = wS.heap.size by rw [hq]; rfl)
  have hcp2 : wb.cell? ⟨bp, 0, none⟩ = some (.pointer (some ⟨p, 0, none⟩)) := (World.cell?_of_block (a := ⟨bp, 0, none⟩) (hkb bp)).trans HCP.out
  have hca2 : wb.cell? ⟨ba, 0, none⟩ = some (.int .i64 at_) := (World.cell?_of_block (a := ⟨ba, 0, none⟩) (hkb ba)).trans HCA.out
  have HCP2 := Lib.hid hcp2
  have HCA2 := Lib.hid hca2
  clear c0 c1 c2 c3 hcp hca
  obtain ⟨c0, c1, c2, c3⟩ := hwb.cells
  clear hq hgb hkb hwb
  gi_wp2
  gi_loopw [5, 6, 7] (fun i _ _ wr => ∃ j : Nat, j ≤ cnt ∧ i = .int .i64 (lo + j) ∧ Hid (J (bksW f lo j) wr) ∧ Hid (WinAt wr p m W B last f) ∧ Hid (wb.heap.size ≤ wr.heap.size) ∧ Hid (wr.cell? ⟨bp, 0, none⟩ = some (.pointer (some ⟨p, 0, none⟩))) ∧ Hid (wr.cell? ⟨ba, 0, none⟩ = some (.int .i64 at_))) (fun i _ _ _ => cnt - (intOf i - lo).toNat)
  case atStart => exact ⟨0, Nat.zero_le _, by simp, HJB, HWB, Lib.hid (Nat.le_refl _), HCP2, HCA2⟩
  case round =>
    rename World => wy
    obtain ⟨j, hj, rfl, HJY, HWY, HZY, HCPY, HCAY⟩ := hrel
    have hcn := HCNT.out
    by_cases hlt : j < cnt
    · have hle : lo + j ≤ K := by omega
      have hi0 : 0 ≤ lo + j := by omega
      have hlk := HWY.out.map.look2 (k := lo + j) (okW_of (by omega))
      obtain ⟨c0, c1, c2, c3⟩ := HWY.out.cells
      have c4 := HCPY.out
      have c5 := HCAY.out
      have hplt := HWY.out.lt.1
      have hbplt := World.block_lt_of_cell? wy _ c4
      have hmul := HKM.out (lo + j) hi0 hle
      have hw1 : IntKind.i64.wrap ((lo + j) * D) = (lo + j) * D := IntWalk.i64_in _ (by omega)
      have hw2 : IntKind.i64.wrap (lo + j + 1) = lo + j + 1 := IntWalk.i64_in _ (by omega)
      have HST := Lib.hid (show bksW f lo (j + 1) = bksW f lo j ++ (match f (lo + j) with | some c => [(lo + j, c)] | none => []) from rfl)
      have hlen := bksW_len f lo j
      obtain ⟨I, hI⟩ : ∃ I, lo + j = I := ⟨_, rfl⟩
      have HI := Lib.hid hI
      rw [hI] at hlk hmul hw1 hw2 hi0 hle HST ⊢
      cases hf : f I with
      | some c =>
        rw [hf] at hlk HST
        have HST : Hid (bksW f lo (j + 1) = bksW f lo j ++ [(I, c)]) := HST
        have HGOOD := Lib.hid (show GoodW D (I, c) from ⟨(HWY.out.map.1 I c hf).2.2, hmul.1, by have := hmul.2; show I * D ≤ _; omega⟩)
        clear hf hI
        obtain ⟨cp, cb, cd, ce, cr, cm⟩ := c
        have HNEW := Lib.hid (ct_cells (w := wy.alloc (ctO ⟨cp, cb, cd, ce, cr, cm⟩ 92)) (g := wy.heap.size) (c := ⟨cp, cb, cd, ce, cr, cm⟩) (t := 92) (by rw [get_allocW, if_pos rfl])).1
        have hOld : ∀ q o v, wy.cell? ⟨q, o, none⟩ = some v → (wy.alloc (ctO ⟨cp, cb, cd, ce, cr, cm⟩ 92)).cell? ⟨q, o, none⟩ = some v := fun q o v hv => (World.cell?_alloc_lt wy _ _ (World.block_lt_of_cell? wy _ hv)).trans hv
        have HOLD := Lib.hid (And.intro (hOld _ _ _ c4) (And.intro (hOld _ _ _ c0) (hOld _ _ _ c1)))
        have HJA := Lib.hid (HJ.out _ wy ((wy.alloc (ctO ⟨cp, cb, cd, ce, cr, cm⟩ 92)).drew) none HJY.out ⟨rfl, rfl, rfl, by simp [World.drew], fun i hi _ => Below.heap_alloc wy _ i hi⟩ (by simp))
        have HYY := Lib.hid (HY.out (bksW f lo j) (I, ⟨cp, cb, cd, ce, cr, cm⟩) _ HGOOD.out HJA.out (by omega))
        clear hOld
        unfold ctV at hlk
        unfold bkV at HYY
        unfold ctO at HYY HJA HNEW HOLD
        simp only [Option.getD_some, Option.isSome_some] at hlk
        dsimp only at *
        gi_wp2
        have HBLK := Lib.hid (show (wy.alloc (.cells #[.int .i64 cp, .int .i64 cb, .int .i64 cd, .int .i64 ce, .int .i64 cr, .int .i64 cm] 92)).heap[wy.heap.size]? = some (.cells #[.int .i64 cp, .int .i64 cb, .int .i64 cd, .int .i64 ce, .int .i64 cr, .int .i64 cm] 92) by rw [get_allocW, if_pos rfl])
        obtain ⟨wA, hwA⟩ : ∃ wA, wy.alloc (.cells #[.int .i64 cp, .int .i64 cb, .int .i64 cd, .int .i64 ce, .int .i64 cr, .int .i64 cm] 92) = wA := ⟨_, rfl⟩
        have HLOW := Lib.hid (show ∀ i : Nat, i < wy.heap.size → wA.heap[i]? = wy.heap[i]? from fun i hi => by rw [← hwA]; exact Below.heap_alloc wy _ i hi)
        have HZA := Lib.hid (show wA.heap.size = wy.heap.size + 1 by rw [← hwA]; simp)
        rw [hwA] at HYY HJA HNEW HOLD HBLK ⊢
        clear hwA
        obtain ⟨Z, hZ⟩ : ∃ Z, wy.heap.size = Z := ⟨_, rfl⟩
        rw [hZ] at HNEW HBLK HLOW HZA ⊢
        have HZ := Lib.hid hZ
        clear hZ hplt hbplt
        refine wpIn_region_noPanic ?_
        refine held_region (y := some 16) (S := fun wx => wx.cell? ⟨bp, 0, none⟩ = some (.pointer (some ⟨p, 0, none⟩)) ∧ wx.cell? ⟨p, 0, none⟩ = some (.int .i64 W) ∧ wx.cell? ⟨p, 1, none⟩ = some (.int .i64 B) ∧ wx.cell? ⟨Z, 0, none⟩ = some (.int .i64 cp) ∧ wx.cell? ⟨Z, 1, none⟩ = some (.int .i64 cb) ∧ wx.cell? ⟨Z, 2, none⟩ = some (.int .i64 cd) ∧ wx.cell? ⟨Z, 3, none⟩ = some (.int .i64 ce) ∧ wx.cell? ⟨Z, 4, none⟩ = some (.int .i64 cr) ∧ wx.cell? ⟨Z, 5, none⟩ = some (.int .i64 cm)) (by kernel_rfl) ?_ (fun hHeld => ?_)
        · exact ⟨HOLD.out.1, HOLD.out.2.1, HOLD.out.2.2, HNEW.out⟩
        refine held_take (i := 0) (y := some 16) (v := ?_) (fun _ => trivial) (by kernel_rfl) rfl (fun z hz => by cases hz; decide) 18 (fun z hz => by cases hz; kernel_rfl) (by kernel_rfl) (by kernel_rfl) (by kernel_rfl) (fun _ _ _ h => h) (Or.inl ⟨by rfl, ?hy⟩) (by assumption) ?_
        case hy => intro wq hSw; obtain ⟨s0, s1, s2, s3, s4, s5, s6, s7, s8⟩ := hSw; go_simp; try with_reducible rfl
        try simp only [Act.put, List.getElem_toArray, List.getElem_cons_succ, List.getElem_cons_zero, List.setIfInBounds_toArray, List.set_cons_zero, List.set_cons_succ]
        refine held_take (i := 1) (y := some 16) (v := ?_) (fun _ => trivial) (by kernel_rfl) rfl (fun z hz => by cases hz; decide) 18 (fun z hz => by cases hz; kernel_rfl) (by kernel_rfl) (by kernel_rfl) (by kernel_rfl) (fun _ _ _ h => h) (Or.inl ⟨by rfl, ?hy⟩) (by assumption) ?_
        case hy => intro wq hSw; obtain ⟨s0, s1, s2, s3, s4, s5, s6, s7, s8⟩ := hSw; go_simp; try with_reducible rfl
        try simp only [Act.put, List.getElem_toArray, List.getElem_cons_succ, List.getElem_cons_zero, List.setIfInBounds_toArray, List.set_cons_zero, List.set_cons_succ]
        refine held_take (i := 2) (y := some 16) (v := ?_) (fun _ => trivial) (by kernel_rfl) rfl (fun z hz => by cases hz; decide) 18 (fun z hz => by cases hz; kernel_rfl) (by kernel_rfl) (by kernel_rfl) (by kernel_rfl) (fun _ _ _ h => h) (Or.inl ⟨by rfl, ?hy⟩) (by assumption) ?_
        case hy => intro wq hSw; obtain ⟨s0, s1, s2, s3, s4, s5, s6, s7, s8⟩ := hSw; go_simp; try with_reducible rfl
        try simp only [Act.put, List.getElem_toArray, List.getElem_cons_succ, List.getElem_cons_zero, List.setIfInBounds_toArray, List.set_cons_zero, List.set_cons_succ]
        refine held_take (i := 3) (y := some 16) (v := ?_) (fun _ => trivial) (by kernel_rfl) rfl (fun z hz => by cases hz; decide) 18 (fun z hz => by cases hz; kernel_rfl) (by kernel_rfl) (by kernel_rfl) (by kernel_rfl) (fun _ _ _ h => h) (Or.inl ⟨by rfl, ?hy⟩) (by assumption) ?_
        case hy => intro wq hSw; obtain ⟨s0, s1, s2, s3, s4, s5, s6, s7, s8⟩ := hSw; go_simp; try with_reducible rfl
        try simp only [Act.put, List.getElem_toArray, List.getElem_cons_succ, List.getElem_cons_zero, List.setIfInBounds_toArray, List.set_cons_zero, List.set_cons_succ]
        refine held_take (i := 4) (y := some 16) (v := ?_) (fun _ => trivial) (by kernel_rfl) rfl (fun z hz => by cases hz; decide) 18 (fun z hz => by cases hz; kernel_rfl) (by kernel_rfl) (by kernel_rfl) (by kernel_rfl) (fun _ _ _ h => h) (Or.inl ⟨by rfl, ?hy⟩) (by assumption) ?_
        case hy => intro wq hSw; obtain ⟨s0, s1, s2, s3, s4, s5, s6, s7, s8⟩ := hSw; go_simp; try with_reducible rfl
        try simp only [Act.put, List.getElem_toArray, List.getElem_cons_succ, List.getElem_cons_zero, List.setIfInBounds_toArray, List.set_cons_zero, List.set_cons_succ]
        refine held_take (i := 5) (y := some 16) (v := ?_) (fun _ => trivial) (by kernel_rfl) rfl (fun z hz => by cases hz; decide) 18 (fun z hz => by cases hz; kernel_rfl) (by kernel_rfl) (by kernel_rfl) (by kernel_rfl) (fun _ _ _ h => h) (Or.inl ⟨by rfl, ?hy⟩) (by assumption) ?_
        case hy => intro wq hSw; obtain ⟨s0, s1, s2, s3, s4, s5, s6, s7, s8⟩ := hSw; go_simp; try with_reducible rfl
        try simp only [Act.put, List.getElem_toArray, List.getElem_cons_succ, List.getElem_cons_zero, List.setIfInBounds_toArray, List.set_cons_zero, List.set_cons_succ]
        refine held_take (i := 6) (y := some 16) (v := ?_) (fun _ => trivial) (by kernel_rfl) rfl (fun z hz => by cases hz; decide) 18 (fun z hz => by cases hz; kernel_rfl) (by kernel_rfl) (by kernel_rfl) (by kernel_rfl) (fun _ _ _ h => h) (Or.inl ⟨by rfl, ?hy⟩) (by assumption) ?_
        case hy => intro wq hSw; obtain ⟨s0, s1, s2, s3, s4, s5, s6, s7, s8⟩ := hSw; go_simp; try with_reducible rfl
        try simp only [Act.put, List.getElem_toArray, List.getElem_cons_succ, List.getElem_cons_zero, List.setIfInBounds_toArray, List.set_cons_zero, List.set_cons_succ]
        refine held_take (i := 7) (y := some 16) (v := ?_) (fun _ => trivial) (by kernel_rfl) rfl (fun z hz => by cases hz; decide) 18 (fun z hz => by cases hz; kernel_rfl) (by kernel_rfl) (by kernel_rfl) (by kernel_rfl) (fun _ _ _ h => h) (Or.inl ⟨by rfl, ?hy⟩) (by assumption) ?_
        case hy => intro wq hSw; obtain ⟨s0, s1, s2, s3, s4, s5, s6, s7, s8⟩ := hSw; go_simp; try with_reducible rfl
        try simp only [Act.put, List.getElem_toArray, List.getElem_cons_succ, List.getElem_cons_zero, List.setIfInBounds_toArray, List.set_cons_zero, List.set_cons_succ]
        refine held_take (i := 8) (y := some 16) (v := ?_) (fun _ => trivial) (by kernel_rfl) rfl (fun z hz => by cases hz; decide) 18 (fun z hz => by cases hz; kernel_rfl) (by kernel_rfl) (by kernel_rfl) (by kernel_rfl) (fun _ _ _ h => h) (Or.inl ⟨by rfl, ?hy⟩) (by assumption) ?_
        case hy => intro wq hSw; obtain ⟨s0, s1, s2, s3, s4, s5, s6, s7, s8⟩ := hSw; go_simp; try with_reducible rfl
        try simp only [Act.put, List.getElem_toArray, List.getElem_cons_succ, List.getElem_cons_zero, List.setIfInBounds_toArray, List.set_cons_zero, List.set_cons_succ]
        refine held_take (i := 9) (y := some 16) (v := ?_) (fun _ => trivial) (by kernel_rfl) rfl (fun z hz => by cases hz; decide) 18 (fun z hz => by cases hz; kernel_rfl) (by kernel_rfl) (by kernel_rfl) (by kernel_rfl) (fun _ _ _ h => h) (Or.inl ⟨by rfl, ?hy⟩) (by assumption) ?_
        case hy => intro wq hSw; obtain ⟨s0, s1, s2, s3, s4, s5, s6, s7, s8⟩ := hSw; go_simp; try with_reducible rfl
        try simp only [Act.put, List.getElem_toArray, List.getElem_cons_succ, List.getElem_cons_zero, List.setIfInBounds_toArray, List.set_cons_zero, List.set_cons_succ]
        refine held_take (i := 10) (y := some 16) (v := ?_) (fun _ => trivial) (by kernel_rfl) rfl (fun z hz => by cases hz; decide) 18 (fun z hz => by cases hz; kernel_rfl) (by kernel_rfl) (by kernel_rfl) (by kernel_rfl) (fun _ _ _ h => h) (Or.inl ⟨by rfl, ?hy⟩) (by assumption) ?_
        case hy => intro wq hSw; obtain ⟨s0, s1, s2, s3, s4, s5, s6, s7, s8⟩ := hSw; go_simp; try with_reducible rfl
        try simp only [Act.put, List.getElem_toArray, List.getElem_cons_succ, List.getElem_cons_zero, List.setIfInBounds_toArray, List.set_cons_zero, List.set_cons_succ]
        refine held_take (i := 11) (y := some 16) (v := ?_) (fun _ => trivial) (by kernel_rfl) rfl (fun z hz => by cases hz; decide) 18 (fun z hz => by cases hz; kernel_rfl) (by kernel_rfl) (by kernel_rfl) (by kernel_rfl) (fun _ _ _ h => h) (Or.inl ⟨by rfl, ?hy⟩) (by assumption) ?_
        case hy => intro wq hSw; obtain ⟨s0, s1, s2, s3, s4, s5, s6, s7, s8⟩ := hSw; go_simp; try with_reducible rfl
        try simp only [Act.put, List.getElem_toArray, List.getElem_cons_succ, List.getElem_cons_zero, List.setIfInBounds_toArray, List.set_cons_zero, List.set_cons_succ]
        refine held_take (i := 12) (y := some 16) (v := ?_) (fun _ => trivial) (by kernel_rfl) rfl (fun z hz => by cases hz; decide) 18 (fun z hz => by cases hz; kernel_rfl) (by kernel_rfl) (by kernel_rfl) (by kernel_rfl) (fun _ _ _ h => h) (Or.inl ⟨by rfl, ?hy⟩) (by assumption) ?_
        case hy => intro wq hSw; obtain ⟨s0, s1, s2, s3, s4, s5, s6, s7, s8⟩ := hSw; go_simp; try with_reducible rfl
        try simp only [Act.put, List.getElem_toArray, List.getElem_cons_succ, List.getElem_cons_zero, List.setIfInBounds_toArray, List.set_cons_zero, List.set_cons_succ]
        refine held_take (i := 13) (y := some 16) (v := ?_) (fun _ => trivial) (by kernel_rfl) rfl (fun z hz => by cases hz; decide) 18 (fun z hz => by cases hz; kernel_rfl) (by kernel_rfl) (by kernel_rfl) (by kernel_rfl) (fun _ _ _ h => h) (Or.inl ⟨by rfl, ?hy⟩) (by assumption) ?_
        case hy => intro wq hSw; obtain ⟨s0, s1, s2, s3, s4, s5, s6, s7, s8⟩ := hSw; go_simp; try with_reducible rfl
        try simp only [Act.put, List.getElem_toArray, List.getElem_cons_succ, List.getElem_cons_zero, List.setIfInBounds_toArray, List.set_cons_zero, List.set_cons_succ]
        refine held_take (i := 14) (y := some 16) (v := ?_) (fun _ => trivial) (by kernel_rfl) rfl (fun z hz => by cases hz; decide) 18 (fun z hz => by cases hz; kernel_rfl) (by kernel_rfl) (by kernel_rfl) (by kernel_rfl) (fun _ _ _ h => h) (Or.inl ⟨by rfl, ?hy⟩) (by assumption) ?_
        case hy => intro wq hSw; obtain ⟨s0, s1, s2, s3, s4, s5, s6, s7, s8⟩ := hSw; go_simp; try with_reducible rfl
        try simp only [Act.put, List.getElem_toArray, List.getElem_cons_succ, List.getElem_cons_zero, List.setIfInBounds_toArray, List.set_cons_zero, List.set_cons_succ]
        refine held_take (i := 15) (y := some 16) (v := ?_) (fun _ => trivial) (by kernel_rfl) rfl (fun z hz => by cases hz; decide) 18 (fun z hz => by cases hz; kernel_rfl) (by kernel_rfl) (by kernel_rfl) (by kernel_rfl) (fun _ _ _ h => h) (Or.inl ⟨by rfl, ?hy⟩) (by assumption) ?_
        case hy => intro wq hSw; obtain ⟨s0, s1, s2, s3, s4, s5, s6, s7, s8⟩ := hSw; go_simp; try with_reducible rfl
        try simp only [Act.put, List.getElem_toArray, List.getElem_cons_succ, List.getElem_cons_zero, List.setIfInBounds_toArray, List.set_cons_zero, List.set_cons_succ]
        obtain ⟨fn, tmps, assign, body, hy, hr⟩ := HYY.out
        refine held_one (y := 16) (by kernel_rfl) rfl (by kernel_rfl) (by rfl) (fun K hK => ?_)
        refine yield_op (fun _ => trivial) rfl (by omega) ?hx hr ?hk ?hv
        case hx => go_simp
        case hv =>
          rintro e w' (⟨rfl, _⟩ | ⟨rfl, _⟩)
          · exact ⟨_, rfl⟩
          · exact ⟨_, rfl⟩
        case hk =>
          rintro v w9 (⟨hv, hJ9, hk9⟩ | ⟨hv, hJx9⟩)
          · cases hv
            have HJ9 := Lib.hid hJ9
            have HK9 := Lib.hid hk9
            clear hy hr hJ9 hk9
            refine hK.out _ _ ?_
            clear hK K
            try simp only [Act.put, List.getElem_toArray, List.getElem_cons_succ, List.getElem_cons_zero, List.setIfInBounds_toArray, List.set_cons_zero, List.set_cons_succ]
            refine held_free (i := 17) (y := some 16) (v := ?_) (fun _ => trivial) (by kernel_rfl) rfl (fun z hz => by cases hz; decide) (by kernel_rfl) (by kernel_rfl) (by kernel_rfl) (fun _ _ _ h => h) (Or.inl ⟨by rfl, ?hy⟩) (by first | exact (fun _ => trivial) | exact (fun e => absurd ((e 16 rfl).symm.trans (show _ = true by kernel_rfl)) Bool.false_ne_true)) ?_
            case hy => intro wq hSw; go_simp; try with_reducible rfl
            try simp only [Act.put, List.getElem_toArray, List.getElem_cons_succ, List.getElem_cons_zero, List.setIfInBounds_toArray, List.set_cons_zero, List.set_cons_succ]
            refine held_free (i := 18) (y := some 16) (v := ?_) (fun _ => trivial) (by kernel_rfl) rfl (fun z hz => by cases hz; decide) (by kernel_rfl) (by kernel_rfl) (by kernel_rfl) (fun _ _ _ h => h) (Or.inl ⟨by rfl, ?hy⟩) (by first | exact (fun _ => trivial) | exact (fun e => absurd ((e 16 rfl).symm.trans (show _ = true by kernel_rfl)) Bool.false_ne_true)) ?_
            case hy => intro wq hSw; go_simp; try with_reducible rfl
            try simp only [Act.put, List.getElem_toArray, List.getElem_cons_succ, List.getElem_cons_zero, List.setIfInBounds_toArray, List.set_cons_zero, List.set_cons_succ]
            refine held_done (by kernel_rfl) ?_ _
            refine NoPanic.normal ?_
            have hzz : Z = wy.heap.size := HZ.out.symm
            have hws : WinAt w9 p m W B last f := HWY.out.kept ((HK9.out.low p HPW.out.1 HPW.out.2).trans (HLOW.out p (by have := HWY.out.lt.1; omega))) ((HK9.out.low m HMW.out.1 HMW.out.2).trans (HLOW.out m (by have := HWY.out.lt.2; omega)))
            have HWS := Lib.hid hws
            have HZ9 := Lib.hid (show wb.heap.size ≤ w9.heap.size by have h1 := HK9.out.size; have h2 := HZA.out; have h3 := HZY.out; have h4 : wA.drew.heap.size = wA.heap.size := rfl; omega)
            have HBP9 := Lib.hid (show w9.cell? ⟨bp, 0, none⟩ = some (.pointer (some ⟨p, 0, none⟩)) from HK9.out.cell HBP.out.2 HOLD.out.1)
            have HBA9 := Lib.hid (show w9.cell? ⟨ba, 0, none⟩ = some (.int .i64 at_) from HK9.out.cell HBA.out.2 ((World.cell?_of_block (w := wy) (a := ⟨ba, 0, none⟩) (HLOW.out ba (by have := World.block_lt_of_cell? wy _ HCAY.out; dsimp only at this; omega))).trans HCAY.out))
            clear hws hzz
            gi_wp2
            exact ⟨⟨j + 1, by omega, by rw [← HI.out]; simp; omega, by rw [HST.out]; exact HJ9, HWS, HZ9, HBP9, HBA9⟩, by rw [← HI.out]; simp [intOf]; omega⟩
          · cases hv
            have HJX := Lib.hid hJx9
            clear hy hr hJx9
            refine hK.out _ _ ?_
            clear hK K
            try simp only [Act.put, List.getElem_toArray, List.getElem_cons_succ, List.getElem_cons_zero, List.setIfInBounds_toArray, List.set_cons_zero, List.set_cons_succ]
            refine held_free (i := 17) (y := some 16) (v := ?_) (fun _ => trivial) (by kernel_rfl) rfl (fun z hz => by cases hz; decide) (by kernel_rfl) (by kernel_rfl) (by kernel_rfl) (fun _ _ _ h => h) (Or.inl ⟨by rfl, ?hy⟩) (by first | exact (fun _ => trivial) | exact (fun e => absurd ((e 16 rfl).symm.trans (show _ = true by kernel_rfl)) Bool.false_ne_true)) ?_
            case hy => intro wq hSw; go_simp; try with_reducible rfl
            try simp only [Act.put, List.getElem_toArray, List.getElem_cons_succ, List.getElem_cons_zero, List.setIfInBounds_toArray, List.set_cons_zero, List.set_cons_succ]
            refine held_free (i := 18) (y := some 16) (v := ?_) (fun _ => trivial) (by kernel_rfl) rfl (fun z hz => by cases hz; decide) (by kernel_rfl) (by kernel_rfl) (by kernel_rfl) (fun _ _ _ h => h) (Or.inl ⟨by rfl, ?hy⟩) (by first | exact (fun _ => trivial) | exact (fun e => absurd ((e 16 rfl).symm.trans (show _ = true by kernel_rfl)) Bool.false_ne_true)) ?_
            case hy => intro wq hSw; go_simp; try with_reducible rfl
            try simp only [Act.put, List.getElem_toArray, List.getElem_cons_succ, List.getElem_cons_zero, List.setIfInBounds_toArray, List.set_cons_zero, List.set_cons_succ]
            refine held_done (by kernel_rfl) ?_ _
            refine NoPanic.normal ?_
            gi_wp2
            refine bodyPost_ret (results_none rfl _ _ _) rfl ?_
            exact ⟨⟨_, rfl⟩, Or.inr ⟨_, trivial, HJX.out⟩⟩
      | none =>
        rw [hf] at hlk HST
        have HST : Hid (bksW f lo (j + 1) = bksW f lo j) := by rw [HST.out]; exact List.append_nil _
        clear hf hI
        have HOLDN := Lib.hid (fun o => HJ.out _ wy ((wy.alloc o).drew) none HJY.out ⟨rfl, rfl, rfl, by simp [World.drew], fun i hi _ => Below.heap_alloc wy _ i hi⟩ (by simp))
        unfold ctV at hlk
        simp only [Option.getD_none, Option.isSome_none, CntS.zero] at hlk
        gi_wp2
        have HLOW := Lib.hid (show ∀ i : Nat, i < wy.heap.size → (wy.alloc (.cells #[.int .i64 0, .int .i64 0, .int .i64 0, .int .i64 0, .int .i64 0, .int .i64 0] 92)).heap[i]? = wy.heap[i]? from fun i hi => Below.heap_alloc wy _ i hi)
        have HJN := Lib.hid (HOLDN.out (.cells #[.int .i64 0, .int .i64 0, .int .i64 0, .int .i64 0, .int .i64 0, .int .i64 0] 92))
        have HZA := Lib.hid (show wy.heap.size ≤ (wy.alloc (.cells #[.int .i64 0, .int .i64 0, .int .i64 0, .int .i64 0, .int .i64 0, .int .i64 0] 92)).drew.heap.size by simp [World.drew])
        refine wpIn_region_noPanic ?_
        refine held_region (y := some 16) (S := fun _ => True) (by kernel_rfl) trivial (fun _ => ?_)
        refine held_free (i := 0) (y := some 16) (v := ?_) (fun _ => trivial) (by kernel_rfl) rfl (fun z hz => by cases hz; decide) (by kernel_rfl) (by kernel_rfl) (by kernel_rfl) (fun _ _ _ h => h) (Or.inl ⟨by rfl, ?hy⟩) (by first | exact (fun _ => trivial) | exact (fun e => absurd ((e 16 rfl).symm.trans (show _ = true by kernel_rfl)) Bool.false_ne_true)) ?_
        case hy => intro wq hSw; go_simp; try with_reducible rfl
        try simp only [Act.put, List.getElem_toArray, List.getElem_cons_succ, List.getElem_cons_zero, List.setIfInBounds_toArray, List.set_cons_zero, List.set_cons_succ]
        refine held_free (i := 1) (y := some 16) (v := ?_) (fun _ => trivial) (by kernel_rfl) rfl (fun z hz => by cases hz; decide) (by kernel_rfl) (by kernel_rfl) (by kernel_rfl) (fun _ _ _ h => h) (Or.inl ⟨by rfl, ?hy⟩) (by first | exact (fun _ => trivial) | exact (fun e => absurd ((e 16 rfl).symm.trans (show _ = true by kernel_rfl)) Bool.false_ne_true)) ?_
        case hy => intro wq hSw; go_simp; try with_reducible rfl
        try simp only [Act.put, List.getElem_toArray, List.getElem_cons_succ, List.getElem_cons_zero, List.setIfInBounds_toArray, List.set_cons_zero, List.set_cons_succ]
        refine held_free (i := 2) (y := some 16) (v := undef) (fun _ => trivial) (by kernel_rfl) rfl (fun z hz => by cases hz; decide) (by kernel_rfl) (by kernel_rfl) (by kernel_rfl) (fun _ _ _ h => h) (Or.inr ⟨by rfl, rfl⟩) (fun _ => trivial) ?_
        try simp only [Act.put, List.getElem_toArray, List.getElem_cons_succ, List.getElem_cons_zero, List.setIfInBounds_toArray, List.set_cons_zero, List.set_cons_succ]
        refine held_free (i := 3) (y := some 16) (v := undef) (fun _ => trivial) (by kernel_rfl) rfl (fun z hz => by cases hz; decide) (by kernel_rfl) (by kernel_rfl) (by kernel_rfl) (fun _ _ _ h => h) (Or.inr ⟨by rfl, rfl⟩) (fun _ => trivial) ?_
        try simp only [Act.put, List.getElem_toArray, List.getElem_cons_succ, List.getElem_cons_zero, List.setIfInBounds_toArray, List.set_cons_zero, List.set_cons_succ]
        refine held_free (i := 4) (y := some 16) (v := undef) (fun _ => trivial) (by kernel_rfl) rfl (fun z hz => by cases hz; decide) (by kernel_rfl) (by kernel_rfl) (by kernel_rfl) (fun _ _ _ h => h) (Or.inr ⟨by rfl, rfl⟩) (fun _ => trivial) ?_
        try simp only [Act.put, List.getElem_toArray, List.getElem_cons_succ, List.getElem_cons_zero, List.setIfInBounds_toArray, List.set_cons_zero, List.set_cons_succ]
        refine held_free (i := 5) (y := some 16) (v := undef) (fun _ => trivial) (by kernel_rfl) rfl (fun z hz => by cases hz; decide) (by kernel_rfl) (by kernel_rfl) (by kernel_rfl) (fun _ _ _ h => h) (Or.inr ⟨by rfl, rfl⟩) (fun _ => trivial) ?_
        try simp only [Act.put, List.getElem_toArray, List.getElem_cons_succ, List.getElem_cons_zero, List.setIfInBounds_toArray, List.set_cons_zero, List.set_cons_succ]
        refine held_free (i := 6) (y := some 16) (v := undef) (fun _ => trivial) (by kernel_rfl) rfl (fun z hz => by cases hz; decide) (by kernel_rfl) (by kernel_rfl) (by kernel_rfl) (fun _ _ _ h => h) (Or.inr ⟨by rfl, rfl⟩) (fun _ => trivial) ?_
        try simp only [Act.put, List.getElem_toArray, List.getElem_cons_succ, List.getElem_cons_zero, List.setIfInBounds_toArray, List.set_cons_zero, List.set_cons_succ]
        refine held_free (i := 7) (y := some 16) (v := undef) (fun _ => trivial) (by kernel_rfl) rfl (fun z hz => by cases hz; decide) (by kernel_rfl) (by kernel_rfl) (by kernel_rfl) (fun _ _ _ h => h) (Or.inr ⟨by rfl, rfl⟩) (fun _ => trivial) ?_
        try simp only [Act.put, List.getElem_toArray, List.getElem_cons_succ, List.getElem_cons_zero, List.setIfInBounds_toArray, List.set_cons_zero, List.set_cons_succ]
        refine held_free (i := 8) (y := some 16) (v := undef) (fun _ => trivial) (by kernel_rfl) rfl (fun z hz => by cases hz; decide) (by kernel_rfl) (by kernel_rfl) (by kernel_rfl) (fun _ _ _ h => h) (Or.inr ⟨by rfl, rfl⟩) (fun _ => trivial) ?_
        try simp only [Act.put, List.getElem_toArray, List.getElem_cons_succ, List.getElem_cons_zero, List.setIfInBounds_toArray, List.set_cons_zero, List.set_cons_succ]
        refine held_free (i := 9) (y := some 16) (v := undef) (fun _ => trivial) (by kernel_rfl) rfl (fun z hz => by cases hz; decide) (by kernel_rfl) (by kernel_rfl) (by kernel_rfl) (fun _ _ _ h => h) (Or.inr ⟨by rfl, rfl⟩) (fun _ => trivial) ?_
        try simp only [Act.put, List.getElem_toArray, List.getElem_cons_succ, List.getElem_cons_zero, List.setIfInBounds_toArray, List.set_cons_zero, List.set_cons_succ]
        refine held_free (i := 10) (y := some 16) (v := undef) (fun _ => trivial) (by kernel_rfl) rfl (fun z hz => by cases hz; decide) (by kernel_rfl) (by kernel_rfl) (by kernel_rfl) (fun _ _ _ h => h) (Or.inr ⟨by rfl, rfl⟩) (fun _ => trivial) ?_
        try simp only [Act.put, List.getElem_toArray, List.getElem_cons_succ, List.getElem_cons_zero, List.setIfInBounds_toArray, List.set_cons_zero, List.set_cons_succ]
        refine held_free (i := 11) (y := some 16) (v := undef) (fun _ => trivial) (by kernel_rfl) rfl (fun z hz => by cases hz; decide) (by kernel_rfl) (by kernel_rfl) (by kernel_rfl) (fun _ _ _ h => h) (Or.inr ⟨by rfl, rfl⟩) (fun _ => trivial) ?_
        try simp only [Act.put, List.getElem_toArray, List.getElem_cons_succ, List.getElem_cons_zero, List.setIfInBounds_toArray, List.set_cons_zero, List.set_cons_succ]
        refine held_free (i := 12) (y := some 16) (v := undef) (fun _ => trivial) (by kernel_rfl) rfl (fun z hz => by cases hz; decide) (by kernel_rfl) (by kernel_rfl) (by kernel_rfl) (fun _ _ _ h => h) (Or.inr ⟨by rfl, rfl⟩) (fun _ => trivial) ?_
        try simp only [Act.put, List.getElem_toArray, List.getElem_cons_succ, List.getElem_cons_zero, List.setIfInBounds_toArray, List.set_cons_zero, List.set_cons_succ]
        refine held_free (i := 13) (y := some 16) (v := undef) (fun _ => trivial) (by kernel_rfl) rfl (fun z hz => by cases hz; decide) (by kernel_rfl) (by kernel_rfl) (by kernel_rfl) (fun _ _ _ h => h) (Or.inr ⟨by rfl, rfl⟩) (fun _ => trivial) ?_
        try simp only [Act.put, List.getElem_toArray, List.getElem_cons_succ, List.getElem_cons_zero, List.setIfInBounds_toArray, List.set_cons_zero, List.set_cons_succ]
        refine held_free (i := 14) (y := some 16) (v := undef) (fun _ => trivial) (by kernel_rfl) rfl (fun z hz => by cases hz; decide) (by kernel_rfl) (by kernel_rfl) (by kernel_rfl) (fun _ _ _ h => h) (Or.inr ⟨by rfl, rfl⟩) (fun _ => trivial) ?_
        try simp only [Act.put, List.getElem_toArray, List.getElem_cons_succ, List.getElem_cons_zero, List.setIfInBounds_toArray, List.set_cons_zero, List.set_cons_succ]
        refine held_free (i := 15) (y := some 16) (v := undef) (fun _ => trivial) (by kernel_rfl) rfl (fun z hz => by cases hz; decide) (by kernel_rfl) (by kernel_rfl) (by kernel_rfl) (fun _ _ _ h => h) (Or.inr ⟨by rfl, rfl⟩) (fun _ => trivial) ?_
        try simp only [Act.put, List.getElem_toArray, List.getElem_cons_succ, List.getElem_cons_zero, List.setIfInBounds_toArray, List.set_cons_zero, List.set_cons_succ]
        refine held_skip (y := 16) (fun _ => trivial) (by kernel_rfl) rfl (by kernel_rfl) (by rfl) ?_
        try simp only [Act.put, List.getElem_toArray, List.getElem_cons_succ, List.getElem_cons_zero, List.setIfInBounds_toArray, List.set_cons_zero, List.set_cons_succ]
        refine held_free (i := 17) (y := some 16) (v := undef) (fun _ => trivial) (by kernel_rfl) rfl (fun z hz => by cases hz; decide) (by kernel_rfl) (by kernel_rfl) (by kernel_rfl) (fun _ _ _ h => h) (Or.inr ⟨by rfl, rfl⟩) (fun _ => trivial) ?_
        try simp only [Act.put, List.getElem_toArray, List.getElem_cons_succ, List.getElem_cons_zero, List.setIfInBounds_toArray, List.set_cons_zero, List.set_cons_succ]
        refine held_free (i := 18) (y := some 16) (v := ?_) (fun _ => trivial) (by kernel_rfl) rfl (fun z hz => by cases hz; decide) (by kernel_rfl) (by kernel_rfl) (by kernel_rfl) (fun _ _ _ h => h) (Or.inl ⟨by rfl, ?hy⟩) (by first | exact (fun _ => trivial) | exact (fun e => absurd ((e 16 rfl).symm.trans (show _ = true by kernel_rfl)) Bool.false_ne_true)) ?_
        case hy => intro wq hSw; go_simp; try with_reducible rfl
        try simp only [Act.put, List.getElem_toArray, List.getElem_cons_succ, List.getElem_cons_zero, List.setIfInBounds_toArray, List.set_cons_zero, List.set_cons_succ]
        refine held_done (by kernel_rfl) ?_ _
        refine NoPanic.normal ?_
        have hws : WinAt (wy.alloc (.cells #[.int .i64 0, .int .i64 0, .int .i64 0, .int .i64 0, .int .i64 0, .int .i64 0] 92)).drew p m W B last f := HWY.out.kept (HLOW.out p HWY.out.lt.1) (HLOW.out m HWY.out.lt.2)
        have HWS := Lib.hid hws
        have HBP9 := Lib.hid (show (wy.alloc (.cells #[.int .i64 0, .int .i64 0, .int .i64 0, .int .i64 0, .int .i64 0, .int .i64 0] 92)).drew.cell? ⟨bp, 0, none⟩ = some (.pointer (some ⟨p, 0, none⟩)) from (World.cell?_of_block (w := wy) (a := ⟨bp, 0, none⟩) (HLOW.out bp (World.block_lt_of_cell? wy _ HCPY.out))).trans HCPY.out)
        have HBA9 := Lib.hid (show (wy.alloc (.cells #[.int .i64 0, .int .i64 0, .int .i64 0, .int .i64 0, .int .i64 0, .int .i64 0] 92)).drew.cell? ⟨ba, 0, none⟩ = some (.int .i64 at_) from (World.cell?_of_block (w := wy) (a := ⟨ba, 0, none⟩) (HLOW.out ba (World.block_lt_of_cell? wy _ HCAY.out))).trans HCAY.out)
        clear hws
        gi_wp2
        exact ⟨⟨j + 1, by omega, by rw [← HI.out]; simp; omega, by rw [HST.out]; exact HJN, HWS, Lib.hid (Nat.le_trans HZY.out HZA.out), HBP9, HBA9⟩, by rw [← HI.out]; simp [intOf]; omega⟩
    · have hle : ¬ lo + j ≤ K := by omega
      have e1 : j = cnt := by omega
      rw [e1] at HJY
      clear e1
      gi_wp2
      go_end0
      exact ⟨⟨_, rfl⟩, Or.inl HJY.out⟩
end Go.Proofs.YtemlafbkkaloiaaGreat

/- window: Sum. -/
namespace Go.Proofs.YtemlafbkkaloiaaGreat
open Go.RowKit Go.Shelf
set_option linter.unusedVariables false
set_option linter.unusedSimpArgs false
attribute [local go_sem] Oper.semAt_some

theorem wat_any (p : Nat) (at_ : Int) (w : World) : Calls Tryz.prog 98 #[.pointer (some ⟨p, 0, none⟩), .int .i64 at_] w fun e w' =>
    e = .returned (.func (.func 115) #[] #[.pointer (some ⟨w.heap.size, 0, none⟩), .pointer (some ⟨w.heap.size + 1, 0, none⟩)]) ∧ w' = (w.alloc (.cells #[.pointer (some ⟨p, 0, none⟩)] 79)).alloc (.cells #[.int .i64 at_] 3) := by
  go_enter Tryz.func98, Tryz.ntmps98
  go_wp2_with (fail)
  go_ret
  exact ⟨rfl, rfl⟩

abbrev BkT (D : Int) := { x : Int × CntS // GoodW D x }
/-- The closure that 'at' hands back stops where the buckets end. -/
theorem wat_stops {p m : Nat} {W B last at_ : Int} {f : Int → Option CntS} (a0 : 0 ≤ at_) (a1 : at_ ≤ 1152921504606846976) (n : Nat) (hn : 3 ≤ n) (n1 s bp ba : Nat) (hp : p < n1 ∧ p ≠ s) (hm : m < n1 ∧ m ≠ s) (hbp : bp < n1 ∧ bp ≠ s) (hba : ba < n1 ∧ ba ≠ s) (hs : s < n1) (K : Int) (hK : at_ / (W / B) = K) (cnt : Nat) (lo : Int)
    (hlo : lo = max 0 (K - B + 1)) (hcnt : (cnt : Int) = K - lo + 1) (w : World) (h : WinAt w p m W B last f) (hn1 : n1 ≤ w.heap.size) (hcp : w.cell? ⟨bp, 0, none⟩ = some (.pointer (some ⟨p, 0, none⟩))) (hca : w.cell? ⟨ba, 0, none⟩ = some (.int .i64 at_)) :
    SeqStopsK Fence.wide n Tryz.prog 115 #[.pointer (some ⟨bp, 0, none⟩), .pointer (some ⟨ba, 0, none⟩)] (fun x : BkT (W / B) => #[bkV (W / B) x.1]) (KeepW n1 s) (fun ys => ys.map (·.1) = bksW f lo cnt) (fun _ => True) 61 w := fun l J Jx W' hW hJ _ hY h0 =>
  (wat1_in a0 a1 n hn n1 s bp ba hp hm hbp hba hs K hK cnt lo hlo hcnt l (fun pre V => ∃ pre' : List (BkT (W / B)), pre'.map (·.1) = pre ∧ J pre' V) (fun pre V => ∃ pre' : List (BkT (W / B)), pre'.map (·.1) = pre ∧ Jx pre' V) W' (h.below hW) (Nat.le_trans hn1 hW.size) ((hW.cell (p := ⟨bp, 0, none⟩) (World.block_lt_of_cell? w _ hcp)).trans hcp) ((hW.cell (p := ⟨ba, 0, none⟩) (World.block_lt_of_cell? w _ hca)).trans hca)
    (fun s X Y row hs hg hr => by obtain ⟨pre', e, hj⟩ := hs; exact ⟨pre', e, hJ pre' X Y row hj hg hr⟩)
    (fun pre x W1 hgood hj hlen => by
      obtain ⟨pre', e, hj⟩ := hj
      refine (hY pre' ⟨x, hgood⟩ W1 hj (by rw [← e, List.length_map] at hlen; exact hlen)).mono (fun e2 w2 h2 => ?_)
      rcases h2 with ⟨q1, q2, q3⟩ | ⟨q1, q2⟩
      · exact Or.inl ⟨q1, ⟨_, by simp [e], q2⟩, q3⟩
      · exact Or.inr ⟨q1, ⟨_, by simp [e], q2⟩⟩)
    ⟨[], rfl, h0⟩).mono (fun e w2 h2 => by
      obtain ⟨hv, h2⟩ := h2
      refine ⟨hv, ?_⟩
      rcases h2 with ⟨ys, e1, pre', e2, hj⟩ | ⟨pre, _, pre', e2, hj⟩
      · exact Or.inl ⟨pre', e2.trans e1, hj⟩
      · exact Or.inr ⟨pre', trivial, hj⟩)

def sumBk (l : List (Int × CntS)) : CntS := l.foldl (fun s x => twoC s x.2) .zero
theorem sumBk_snoc (l : List (Int × CntS)) (x : Int × CntS) : sumBk (l ++ [x]) = twoC (sumBk l) x.2 := by simp [sumBk, List.foldl_append]
theorem sumBk_right {D : Int} (l : List (BkT D)) : RightC (sumBk (l.map (·.1))) := by
  have : ∀ (l : List (BkT D)) (s : CntS), RightC s → RightC ((l.map (·.1)).foldl (fun s x => twoC s x.2) s) := by
    intro l
    induction l with
    | nil => intro s h; exact h
    | cons x l ih => intro s h; exact ih _ (twoC_right h x.2.1)
  exact this l .zero rightC_zero
theorem keepW_alloc {n1 s : Nat} {W : World} (h : n1 ≤ W.heap.size) (o : Obj) : KeepW n1 s W (W.alloc o) :=
  ⟨by simp, fun i hi _ => Below.heap_alloc W o i (by omega), fun i x hx _ _ => (Below.heap_alloc W o i (Array.getElem?_eq_some_iff.1 hx).1).trans hx⟩
theorem keep_six {n1 s : Nat} {W w1 : World} {c : CntS} {t : TypeId} (hb : Below W.heap.size W w1) (hn : n1 ≤ W.heap.size) (hs : W.heap[s]? = some (ctO c t)) (p b d e r m : Int) : KeepW n1 s W (sixC w1 s p b d e r m) ∧ ∀ B, KeepsFrom B W (sixC w1 s p b d e r m) := by
  have hsz : (sixC w1 s p b d e r m).heap.size = w1.heap.size := sixC_size ..
  refine ⟨⟨by rw [hsz]; exact hb.size, fun i hi hne => (sixC_other hne ..).trans (hb.block i (by omega)), fun i o hi _ hne => ((sixC_other hne ..).trans (hb.block i (Array.getElem?_eq_some_iff.1 hi).1)).trans hi⟩, fun B => ⟨by rw [hsz]; exact hb.size, fun k o _ hk ho => ?_⟩⟩
  have hne : k ≠ s := fun e => by
    subst e
    rw [hs] at hk; cases hk; cases ho
  exact ((sixC_other hne ..).trans (hb.block k (Array.getElem?_eq_some_iff.1 hk).1)).trans hk
theorem results_cell_tmp {P : Program} {fn : Func} {p q : Tmp} {ty : TypeId} (h : fn.results = #[.cell p ty, .tmp q]) (tmps : Array Value) (w : World) (g : Nat) (t : TypeId) (cs : Array Value) (fr : Nat × Nat) (d : TypeDesc) (v : Value)
    (hp : tmps.getD p undef = .pointer (some ⟨g, 0, none⟩)) (hq : tmps.getD q undef = v) (hg : w.heap[g]? = some (.cells cs t fr))
    (hu : P.underlying ty = some d) (hd : (match d with | .struct _ | .array _ _ => true | _ => false) = true) (hi : (P.info? ty).map (·.size) = some cs.size) :
    (results fn tmps).run P w = .ok (.tuple #[.agg cs, v]) w := by
  have hp' : tmps[p]?.getD undef = .pointer (some ⟨g, 0, none⟩) := by simpa using hp
  have hq' : tmps[q]?.getD undef = v := by simpa using hq
  simp [results, h, hp', hq', asAddr, run_loadVar_row w g t ty cs fr d hg hu hd hi]
def bkO (D : Int) (x : Int × CntS) : Obj := .cells #[.int .i64 (x.1 * D), .int .i64 x.2.p, .int .i64 x.2.b, .int .i64 x.2.d, .int .i64 x.2.e, .int .i64 x.2.r, .int .i64 x.2.m] 182
theorem bk_cells {w : World} {g : Nat} {D : Int} {x : Int × CntS} (h : w.heap[g]? = some (bkO D x)) : w.cell? ⟨g, 0, none⟩ = some (.int .i64 (x.1 * D)) ∧ w.cell? ⟨g, 1, none⟩ = some (.int .i64 x.2.p) ∧ w.cell? ⟨g, 2, none⟩ = some (.int .i64 x.2.b) ∧ w.cell? ⟨g, 3, none⟩ = some (.int .i64 x.2.d) ∧
    w.cell? ⟨g, 4, none⟩ = some (.int .i64 x.2.e) ∧ w.cell? ⟨g, 5, none⟩ = some (.int .i64 x.2.r) ∧ w.cell? ⟨g, 6, none⟩ = some (.int .i64 x.2.m) := by
  simp only [World.cell?, h, bkO]
  exact ⟨rfl, rfl, rfl, rfl, rfl, rfl, rfl⟩

set_option maxHeartbeats 6400000 in
set_option maxRecDepth 100000 in
theorem wsum_in {w : World} {p m : Nat} {W B last at_ : Int} {f : Int → Option CntS} (h : WinAt w p m W B last f) (hE : lookW last at_ = 0) (K : Int) (hK : at_ / (W / B) = K) (cnt : Nat) (lo : Int) (hlo : lo = max 0 (K - B + 1)) (hcnt : (cnt : Int) = K - lo + 1) :
    CallsIn Fence.wide 9 Tryz.prog 68 #[.pointer (some ⟨p, 0, none⟩), .int .i64 at_] w fun e w' => e = .returned (.tuple #[ctV (sumBk (bksW f lo cnt)), .int .i64 0]) ∧ Below w.heap.size w w' := by
  obtain ⟨a0, a1, a2⟩ := lookW_ok hE
  have HWR := Lib.hid (fun (wx : World) (hb : Below w.heap.size w wx) => wwrong_any p last at_ wx (h.below hb).cells.2.2.1)
  rw [hE] at HWR
  have HH := Lib.hid h
  obtain ⟨hpl, hml⟩ := h.lt
  have HB0 := Lib.hid (show Below w.heap.size w (w.alloc (ctO .zero 92)) from (Below.refl _ _).alloc (Nat.le_refl _) _)
  have HB1 := Lib.hid (show Below w.heap.size w ((w.alloc (ctO .zero 92)).alloc (ctO .zero 92)) from HB0.out.alloc (by simp) _)
  have HB3 := Lib.hid (show Below w.heap.size w ((((w.alloc (ctO .zero 92)).alloc (ctO .zero 92)).alloc (.cells #[.pointer (some ⟨p, 0, none⟩)] 79)).alloc (.cells #[.int .i64 at_] 3)) from (HB1.out.alloc (by simp; omega) _).alloc (by simp; omega) _)
  have HSZ := Lib.hid (show ((((w.alloc (ctO .zero 92)).alloc (ctO .zero 92)).alloc (.cells #[.pointer (some ⟨p, 0, none⟩)] 79)).alloc (.cells #[.int .i64 at_] 3)).heap.size = w.heap.size + 4 by simp)
  have G0 := Lib.hid (show ((((w.alloc (ctO .zero 92)).alloc (ctO .zero 92)).alloc (.cells #[.pointer (some ⟨p, 0, none⟩)] 79)).alloc (.cells #[.int .i64 at_] 3)).heap[w.heap.size]? = some (ctO .zero 92) by
    rw [get_allocW, if_neg (by simp; omega), get_allocW, if_neg (by simp; omega), get_allocW, if_neg (by simp), get_allocW, if_pos rfl])
  have G1 := Lib.hid (show ((((w.alloc (ctO .zero 92)).alloc (ctO .zero 92)).alloc (.cells #[.pointer (some ⟨p, 0, none⟩)] 79)).alloc (.cells #[.int .i64 at_] 3)).heap[w.heap.size + 1]? = some (ctO .zero 92) by
    rw [get_allocW, if_neg (by simp), get_allocW, if_neg (by simp), get_allocW, if_pos (by simp)])
  have C2 := Lib.hid (show ((((w.alloc (ctO .zero 92)).alloc (ctO .zero 92)).alloc (.cells #[.pointer (some ⟨p, 0, none⟩)] 79)).alloc (.cells #[.int .i64 at_] 3)).cell? ⟨w.heap.size + 1 + 1, 0, none⟩ = some (.pointer (some ⟨p, 0, none⟩)) by
    simp only [World.cell?]
    rw [get_allocW, if_neg (by simp), get_allocW, if_pos (by simp)]
    rfl)
  have C3 := Lib.hid (show ((((w.alloc (ctO .zero 92)).alloc (ctO .zero 92)).alloc (.cells #[.pointer (some ⟨p, 0, none⟩)] 79)).alloc (.cells #[.int .i64 at_] 3)).cell? ⟨w.heap.size + 1 + 1 + 1, 0, none⟩ = some (.int .i64 at_) by
    simp only [World.cell?]
    rw [get_allocW, if_pos (by simp)]
    rfl)
  clear h hE
  refine callsIn_of_wp_marks Tryz.func68 rfl trivial ?_ rfl
  simp only [Tryz.ntmps68, List.size_toArray, List.length_cons, List.length_nil, Nat.reduceAdd, Nat.reduceSub, Array.replicate_succ, Array.replicate_zero, List.push_toArray, List.append_toArray, List.nil_append, List.cons_append]
  gi_wp2
  refine ⟨trivial, (callsIn_wide.2 (HWR.out _ HB0.out)).mono ?_⟩
  rintro e wq ⟨rfl, hq⟩
  subst hq
  gi_wp2
  refine ⟨trivial, (callsIn_wide.2 (wat_any p at_ _)).mono ?_⟩
  rintro e wq ⟨rfl, hq⟩
  subst hq
  gi_wp2
  unfold ctO CntS.zero
  dsimp only
  unfold ctO CntS.zero at HB3 HSZ G0 G1 C2 C3
  dsimp only at HB3 HSZ G0 G1 C2 C3
  generalize hW0 : (((w.alloc (.cells #[.int .i64 0, .int .i64 0, .int .i64 0, .int .i64 0, .int .i64 0, .int .i64 0] 92)).alloc (.cells #[.int .i64 0, .int .i64 0, .int .i64 0, .int .i64 0, .int .i64 0, .int .i64 0] 92)).alloc (.cells #[.pointer (some ⟨p, 0, none⟩)] 79)).alloc (.cells #[.int .i64 at_] 3) = W0 at *
  clear hW0
  have hsz := HSZ.out
  refine wpIn_rangeFunc_ownH (F := Fence.wide) (n := 9) rfl (by decide) (gf := 115) (lb := #[.pointer (some ⟨w.heap.size + 1 + 1, 0, none⟩), .pointer (some ⟨w.heap.size + 1 + 1 + 1, 0, none⟩)]) rfl trivial (enters_of Tryz.func115 (by kernel_rfl) rfl)
    (wat_stops a0 a1 8 (by decide) (w.heap.size + 4) (w.heap.size + 1) (w.heap.size + 1 + 1) (w.heap.size + 1 + 1 + 1) ⟨by omega, by omega⟩ ⟨by omega, by omega⟩ ⟨by omega, by omega⟩ ⟨by omega, by omega⟩ (by omega) K hK cnt lo hlo hcnt W0 (HH.out.below HB3.out) (by omega) C2.out C3.out) keepW_t (keepW_b (by omega)) (Below.refl _ _) (fun _ => rfl)
    (fun pre V => (V.heap[w.heap.size + 1]? = some (ctO (sumBk (pre.map (·.1))) 92) ∧ V.heap[w.heap.size]? = some (ctO .zero 92) ∧ w.heap.size + 4 ≤ V.heap.size) ∧ Below w.heap.size w V)
    (fun _ _ _ => False)
    (OwnFrom.and (fun s X Y row hs hg hr => ⟨(hg.block _ (Array.getElem?_eq_some_iff.1 hs.1).1 (fun e => by have := (hr _ e.symm).1; omega)).trans hs.1, (hg.block _ (Array.getElem?_eq_some_iff.1 hs.2.1).1 (fun e => by have := (hr _ e.symm).1; omega)).trans hs.2.1, Nat.le_trans hs.2.2 hg.size⟩) (ownFrom_below (Nat.le_refl _) (by omega)))
    (fun _ _ _ _ _ hs _ _ => hs)
    ⟨⟨G1.out, G0.out, by omega⟩, HB3.out⟩
    (fun x a' V => ∃ Bx, w.heap.size + 4 ≤ Bx ∧ V.heap[Bx]? = some (bkO (W / B) x.1) ∧ a' = { tmps := #[.pointer (some ⟨p, 0, none⟩), .int .i64 at_, undef, undef, .pointer (some ⟨w.heap.size, 0, none⟩), .int .i64 0, .int .i64 0, .pointer (some ⟨w.heap.size + 1, 0, none⟩), .pointer (some ⟨Bx, 0, none⟩), .pointer (some ⟨p, 0, none⟩), .int .i64 at_, .int .i64 0, .int .i64 0, .bool false, undef, undef, .pointer (some ⟨p, 0, none⟩), .int .i64 at_, .func (.func 115) #[] #[.pointer (some ⟨w.heap.size + 1 + 1, 0, none⟩), .pointer (some ⟨w.heap.size + 1 + 1 + 1, 0, none⟩)], bkV (W / B) x.1, undef, undef, undef, undef, undef], defers := [] })
    (fun x a' _ X Y row hs hg hr => by
      obtain ⟨Bx, h1, h2, h3⟩ := hs
      refine ⟨Bx, h1, (hg.block Bx (Array.getElem?_eq_some_iff.1 h2).1 (fun e => ?_)).trans h2, h3⟩
      obtain ⟨_, o, ho, hc⟩ := hr Bx e.symm
      rw [h2] at ho; cases ho; cases hc)
    ?assign ?body ?done ?stop
  case assign =>
    rintro l pre ⟨⟨xi, xp, xb, xd, xe, xr, xm⟩, hx⟩ V KK ⟨⟨g1, g0, gz⟩, hB⟩ hKK
    unfold bkV
    dsimp only
    gi_wp2
    exact hKK _ _ ((KeepsOthers.alloc _ _).from _) (keepW_alloc gz _) ⟨⟨(Below.heap_alloc V _ _ (by omega)).trans g1, (Below.heap_alloc V _ _ (by omega)).trans g0, by simp; omega⟩, hB.alloc hB.size _⟩ ⟨V.heap.size, gz, (get_allocW V _ _).trans (if_pos rfl), rfl⟩
  case body =>
    rintro l pre ⟨⟨xi, xp, xb, xd, xe, xr, xm⟩, hx⟩ a' V hl ⟨r, hr⟩ ⟨⟨g1, g0, gz⟩, hB⟩ ⟨Bx, hBx, bX, rfl⟩ hlt
    have hsr := sumBk_right pre
    have hxr := hx.1
    have HSN := Lib.hid (show sumBk ((pre ++ [(⟨(xi, ⟨xp, xb, xd, xe, xr, xm⟩), hx⟩ : BkT (W / B))]).map (fun x => x.1)) = twoC (sumBk (pre.map (·.1))) ⟨xp, xb, xd, xe, xr, xm⟩ by rw [List.map_append]; exact sumBk_snoc _ _)
    obtain ⟨SS, hSS⟩ : ∃ SS, sumBk (pre.map (·.1)) = SS := ⟨_, rfl⟩
    rw [hSS] at g1 hsr HSN
    clear hSS
    obtain ⟨x0, x1, x2, x3, x4, x5, x6⟩ := bk_cells bX
    have HTW := Lib.hid (fun wx => wtwo_any SS ⟨xp, xb, xd, xe, xr, xm⟩ hsr hxr wx)
    have hzB : Bx < V.heap.size := (Array.getElem?_eq_some_iff.1 bX).1
    obtain ⟨T, hT⟩ : ∃ T, twoC SS ⟨xp, xb, xd, xe, xr, xm⟩ = T := ⟨_, rfl⟩
    rw [hT] at HTW HSN
    clear hT hsr hxr
    have HG1 := Lib.hid g1
    obtain ⟨sp, sb, sd, se, sr, sm⟩ := SS
    obtain ⟨tp, tb, td, te, tr, tm⟩ := T
    obtain ⟨⟨d0, d1, d2, d3, d4, d5⟩, df⟩ := ct_cells g1
    dsimp only at *
    unfold ctV at HTW
    clear g1
    gi_wp2
    refine ⟨trivial, ((callsIn_wide.2 (HTW.out V)).inRound l).mono ?_⟩
    rintro e w9 ⟨rfl, h9⟩
    have HK9 := Lib.hid (keep_six h9 gz HG1.out tp tb td te tr tm)
    have h1' := (h9.block (w.heap.size + 1) (by omega)).trans HG1.out
    have HG9 := Lib.hid h1'
    obtain ⟨⟨e0, e1, e2, e3, e4, e5⟩, ef⟩ := ct_cells h1'
    have HG0 := Lib.hid ((sixC_other (w := w9) (g := w.heap.size + 1) (i := w.heap.size) (by omega) tp tb td te tr tm).trans ((h9.block w.heap.size (by omega)).trans g0))
    have HZ9 := Lib.hid (show w.heap.size + 4 ≤ (sixC w9 (w.heap.size + 1) tp tb td te tr tm).heap.size by rw [sixC_size]; have := h9.size; omega)
    have HB9 := Lib.hid (sixC_below (g := w.heap.size + 1) (hB.trans (h9.mono hB.size)) (by omega) tp tb td te tr tm)
    clear h9 h1' d0 d1 d2 d3 d4 d5 df
    gi_wp2
    exact ⟨HK9.out.2 _, HK9.out.1, ⟨by rw [HSN.out]; exact sixC_same HG9.out tp tb td te tr tm, HG0.out, HZ9.out⟩, HB9.out⟩
  case done =>
    rintro D ys V hD hS ⟨⟨g1, g0, gz⟩, hB⟩ hK
    rw [hS] at g1
    obtain ⟨SS, hSS⟩ : ∃ SS, sumBk (bksW f lo cnt) = SS := ⟨_, rfl⟩
    rw [hSS] at g1
    have HSS := Lib.hid hSS
    clear hSS
    obtain ⟨sp, sb, sd, se, sr, sm⟩ := SS
    obtain ⟨⟨d0, d1, d2, d3, d4, d5⟩, df⟩ := ct_cells g1
    obtain ⟨⟨e0, e1, e2, e3, e4, e5⟩, ef⟩ := ct_cells g0
    dsimp only at *
    have hK' : (sixC V w.heap.size sp sb sd se sr sm).heap[D]? = some (.deferred (some [])) := (sixC_other (by omega) sp sb sd se sr sm).trans hK
    have hres := sixC_same g0 sp sb sd se sr sm
    have HK' := Lib.hid hK'
    have HRES := Lib.hid hres
    clear hK hres hK'
    gi_wp2
    refine ⟨by simp, .inl ⟨_, _, rfl, run_takeDeferred HK'.out, ?_⟩⟩
    have hgr := grownBy_putObj' (sixC V w.heap.size sp sb sd se sr sm) D (.deferred none)
    have hlt : w.heap.size < (sixC V w.heap.size sp sb sd se sr sm).heap.size := (Array.getElem?_eq_some_iff.1 HRES.out).1
    refine ⟨_, results_cell_tmp (P := Tryz.prog) rfl _ _ w.heap.size 92 #[.int .i64 sp, .int .i64 sb, .int .i64 sd, .int .i64 se, .int .i64 sr, .int .i64 sm] (0, 0) _ (.int .i64 0) (by rfl) (by rfl) ((hgr.block w.heap.size hlt (by simp; omega)).trans HRES.out) Tryz.underlying92 rfl (by kernel_rfl), ?_, ?_⟩
    · rw [HSS.out]; rfl
    · exact (sixC_below hB (Nat.le_refl _) sp sb sd se sr sm).grown hgr (by rw [sixC_size]; exact hB.size) (fun k e => by cases e; omega)
  case stop =>
    rintro D c pre V _ _ h _
    exact h.elim

theorem wSum_any {w : World} {p m : Nat} {W B last at_ : Int} {f : Int → Option CntS} (h : WinAt w p m W B last f) (hE : lookW last at_ = 0) (K : Int) (hK : at_ / (W / B) = K) (cnt : Nat) (lo : Int) (hlo : lo = max 0 (K - B + 1)) (hcnt : (cnt : Int) = K - lo + 1) :
    Calls Tryz.prog 68 #[.pointer (some ⟨p, 0, none⟩), .int .i64 at_] w fun e w' => e = .returned (.tuple #[ctV (sumBk (bksW f lo cnt)), .int .i64 0]) ∧ Below w.heap.size w w' :=
  (callsIn_wide (n := 9)).1 (wsum_in h hE K hK cnt lo hlo hcnt)
end Go.Proofs.YtemlafbkkaloiaaGreat

/- window: Most. -/
namespace Go.Proofs.YtemlafbkkaloiaaGreat
open Go.RowKit Go.Shelf
set_option linter.unusedVariables false
set_option linter.unusedSimpArgs false
attribute [local go_sem] Oper.semAt_some

def mostF (K : Int) (g : Int) (x : Int × CntS) : Int := if x.1 = K then g else max g x.2.p
def mostBk (K : Int) (l : List (Int × CntS)) : Int := l.foldl (mostF K) 0
theorem mostBk_snoc (K : Int) (l : List (Int × CntS)) (x : Int × CntS) : mostBk K (l ++ [x]) = mostF K (mostBk K l) x := by simp [mostBk, List.foldl_append]
structure SameW (V w : World) : Prop where
  heap : w.heap = V.heap
  os : w.os = V.os
  tape : w.tape = V.tape
  output : w.output = V.output
theorem keep_one {n1 s : Nat} {W w1 : World} {v : Value} {t : TypeId} (hz : w1.heap = W.heap) (hs : W.heap[s]? = some (.cells #[v] t)) (u : Value) : KeepW n1 s W (w1.setCell ⟨s, 0, none⟩ u) ∧ ∀ B, KeepsFrom B W (w1.setCell ⟨s, 0, none⟩ u) := by
  have hsz : (w1.setCell ⟨s, 0, none⟩ u).heap.size = W.heap.size := by rw [← hz]; simp [World.setCell]
  have ho : ∀ i, i ≠ s → (w1.setCell ⟨s, 0, none⟩ u).heap[i]? = W.heap[i]? := fun i hi => (heap_setCell_other w1 ⟨s, 0, none⟩ i u hi).trans (by rw [hz])
  refine ⟨⟨by rw [hsz]; exact Nat.le_refl _, fun i hi hne => ho i hne, fun i o hi _ hne => (ho i hne).trans hi⟩, fun B => ⟨by rw [hsz]; exact Nat.le_refl _, fun k o _ hk hx => ?_⟩⟩
  have hne : k ≠ s := fun e => by
    subst e
    rw [hs] at hk; cases hk; cases hx
  exact (ho k hne).trans hk
theorem keep_none {n1 s : Nat} {W w1 : World} (hz : w1.heap = W.heap) : KeepW n1 s W w1 ∧ ∀ B, KeepsFrom B W w1 :=
  ⟨⟨by rw [hz]; exact Nat.le_refl _, fun i _ _ => by rw [hz], fun i o hi _ _ => by rw [hz]; exact hi⟩, fun B => ⟨by rw [hz]; exact Nat.le_refl _, fun k o _ hk _ => by rw [hz]; exact hk⟩⟩
theorem box_cell {w : World} {g : Nat} {v : Value} {t : TypeId} (h : w.heap[g]? = some (.cells #[v] t)) : w.cell? ⟨g, 0, none⟩ = some v := by simp [World.cell?, h]
theorem box_free {w : World} {g : Nat} {v : Value} {t : TypeId} (h : w.heap[g]? = some (.cells #[v] t)) : w.frozen? ⟨g, 0, none⟩ = false := by simp [World.frozen?, h]
theorem results_tmp_tmp {P : Program} {fn : Func} {p q : Tmp} (h : fn.results = #[.tmp p, .tmp q]) (tmps : Array Value) (w : World) (u v : Value) (hp : tmps.getD p undef = u) (hq : tmps.getD q undef = v) : (results fn tmps).run P w = .ok (.tuple #[u, v]) w := by
  have hp' : tmps[p]?.getD undef = u := by simpa using hp
  have hq' : tmps[q]?.getD undef = v := by simpa using hq
  simp [results, h, hp', hq']

end Go.Proofs.YtemlafbkkaloiaaGreat

/- window: its sum and its most, by the notes. -/
namespace Go.Proofs.YtemlafbkkaloiaaGreat
open Go.RowKit
set_option linter.unusedVariables false
set_option linter.unusedSimpArgs false

theorem runW_snoc (f : Int → Option CntS) : ∀ (n : Nat) (lo : Int) (s : CntS), runW f (n + 1) lo s = (match f (lo + n) with | some c => twoC (runW f n lo s) c | none => runW f n lo s)
  | 0, lo, s => by
    show runW f 0 (lo + 1) _ = _
    simp only [runW]
    have e : lo + ((0 : Nat) : Int) = lo := by omega
    rw [e]
    cases f lo <;> rfl
  | n + 1, lo, s => by
    rw [runW, runW_snoc f n (lo + 1), runW]
    have e : lo + 1 + (n : Int) = lo + ((n + 1 : Nat) : Int) := by omega
    rw [e]
theorem sumBk_run (f : Int → Option CntS) (lo : Int) : ∀ n, sumBk (bksW f lo n) = runW f n lo .zero
  | 0 => rfl
  | n + 1 => by
    rw [runW_snoc, bksW]
    cases h : f (lo + n) with
    | none => simp only [List.append_nil]; exact sumBk_run f lo n
    | some c => simp only; rw [sumBk_snoc, sumBk_run f lo n]
theorem InvW.sum2 {b B last : Int} {notes : List NoteW} {f : Int → Option CntS} (h : InvW b B last notes f) {at_ : Int} (hat : last ≤ at_) {cnt : Nat} {lo : Int} (hlo : lo = max 0 (at_ / b - B + 1)) (hcnt : (cnt : Int) = at_ / b - lo + 1) : sumBk (bksW f lo cnt) = winC b B at_ notes := by
  have hm : last / b ≤ at_ / b := Int.ediv_le_ediv h.b1 hat
  have hl : last / b - B < lo := by omega
  have e := runW_img h (n := cnt) (lo := lo) rawOk_zero hl
  rw [imgC_zero, RawC.zero_add] at e
  rw [sumBk_run, e]
  unfold winC
  congr 1
  refine sumW_congr (fun x hx => ?_)
  obtain ⟨x0, x1⟩ := h.nn x hx
  have q0 : 0 ≤ x.at_ / b := Int.ediv_nonneg x0 (by have := h.b1; omega)
  have q1 : x.at_ / b ≤ last / b := Int.ediv_le_ediv h.b1 x1
  rw [← Bool.decide_and]
  congr 1
  exact propext ⟨fun h => by omega, fun h => by omega⟩
/-- Of two buckets, the one ahead. -/
theorem InvW.past {b last : Int} {notes : List NoteW} {f : Int → Option CntS} (h : InvW b 2 last notes f) {at_ : Int} (hat : last ≤ at_) {cnt : Nat} {lo : Int} (hlo : lo = max 0 (at_ / b - 2 + 1)) (hcnt : (cnt : Int) = at_ / b - lo + 1) : mostBk (at_ / b) (bksW f lo cnt) = (imgC (sumW (fun x => decide (x.at_ / b = at_ / b - 1)) notes)).p := by
  have hm : last / b ≤ at_ / b := Int.ediv_le_ediv h.b1 hat
  have hl0 := h.l0
  have hb := h.b1
  have hk0 : 0 ≤ at_ / b := Int.ediv_nonneg (by omega) (by omega)
  generalize hK : at_ / b = K at *
  by_cases h0 : K = 0
  · have e1 : lo = 0 := by omega
    have e2 : cnt = 1 := by omega
    subst e1 e2
    have e3 : mostBk K (bksW f 0 1) = 0 := by
      show mostBk K (bksW f 0 0 ++ _) = 0
      cases hf : f (0 + ((0 : Nat) : Int)) with
      | none => simp [bksW, mostBk]
      | some c => simp [bksW, mostBk, mostF, h0]
    rw [e3, sumW_none (fun x hx => by
      obtain ⟨x0, x1⟩ := h.nn x hx
      have q0 : 0 ≤ x.at_ / b := Int.ediv_nonneg x0 (by omega)
      rw [decide_eq_false_iff_not]; omega), imgC_zero]
    rfl
  · have e1 : lo = K - 1 := by omega
    have e2 : cnt = 2 := by omega
    subst e1 e2
    have e4 : mostBk K (bksW f (K - 1) 2) = mostBk K (bksW f (K - 1) 1) := by
      have e : (K - 1) + ((1 : Nat) : Int) = K := by omega
      show mostBk K (bksW f (K - 1) 1 ++ (match f ((K - 1) + ((1 : Nat) : Int)) with | some c => [((K - 1) + ((1 : Nat) : Int), c)] | .none => [])) = _
      rw [e]
      cases f K with
      | none => simp
      | some c =>
        simp only
        rw [mostBk_snoc]
        unfold mostF
        rw [if_pos rfl]
    have e5 : mostBk K (bksW f (K - 1) 1) = max 0 ((f (K - 1)).getD .zero).p := by
      have e : (K - 1) + ((0 : Nat) : Int) = K - 1 := by omega
      show mostBk K (bksW f (K - 1) 0 ++ (match f ((K - 1) + ((0 : Nat) : Int)) with | some c => [((K - 1) + ((0 : Nat) : Int), c)] | .none => [])) = _
      rw [e]
      cases f (K - 1) with
      | none => simp [bksW, mostBk, CntS.zero]
      | some c =>
        simp [bksW, mostBk, mostF]
        intro h; omega
    rw [e4, e5, h.at (show last / b - 2 < K - 1 by omega)]
    have := (imgC_right (sumW_ok (p := fun x => decide (x.at_ / b = K - 1)) h.right)).p0
    omega
theorem lo_cnt {K B : Int} (hK : 0 ≤ K) (hB : 1 ≤ B) : ∃ (lo : Int) (cnt : Nat), lo = max 0 (K - B + 1) ∧ (cnt : Int) = K - lo + 1 := by
  obtain ⟨lo, hlo⟩ : ∃ lo, lo = max 0 (K - B + 1) := ⟨_, rfl⟩
  exact ⟨lo, (K - lo + 1).toNat, hlo, by omega⟩

/-- A window, and what was noted. -/
structure WinN (w : World) (p m : Nat) (W B last : Int) (notes : List NoteW) : Prop where
  ex : ∃ f, WinAt w p m W B last f ∧ InvW (W / B) B last notes f
theorem WinN.lt {w : World} {p m : Nat} {W B last : Int} {notes : List NoteW} (h : WinN w p m W B last notes) : p < w.heap.size ∧ m < w.heap.size := by
  obtain ⟨f, h1, _⟩ := h.ex
  exact h1.lt
theorem WinN.kept {w w' : World} {p m : Nat} {W B last : Int} {notes : List NoteW} (h : WinN w p m W B last notes) (hp : w'.heap[p]? = w.heap[p]?) (hm : w'.heap[m]? = w.heap[m]?) : WinN w' p m W B last notes := by
  obtain ⟨f, h1, h2⟩ := h.ex
  exact ⟨f, h1.kept hp hm, h2⟩
theorem WinN.below {w w' : World} {p m : Nat} {W B last : Int} {notes : List NoteW} (h : WinN w p m W B last notes) (hb : Below w.heap.size w w') : WinN w' p m W B last notes := h.kept (hb.block p h.lt.1) (hb.block m h.lt.2)
theorem WinN.cell {w : World} {p m : Nat} {W B last : Int} {notes : List NoteW} (h : WinN w p m W B last notes) : w.cell? ⟨p, 2, none⟩ = some (.int .i64 last) := by
  obtain ⟨f, h1, _⟩ := h.ex
  exact h1.cells.2.2.1
theorem WinN.last {w : World} {p m : Nat} {W B last : Int} {notes : List NoteW} (h : WinN w p m W B last notes) : 0 ≤ last ∧ last ≤ 1152921504606846976 := by
  obtain ⟨f, h1, _⟩ := h.ex
  exact ⟨h1.l0, h1.l1⟩
theorem WinN.right {w : World} {p m : Nat} {W B last : Int} {notes : List NoteW} (h : WinN w p m W B last notes) : RightL notes ∧ ∀ x, x ∈ notes → 0 ≤ x.at_ ∧ x.at_ ≤ last := by
  obtain ⟨f, _, h1⟩ := h.ex
  exact ⟨h1.right, h1.nn⟩
theorem winN_made (w : World) {W B : Int} (hS : ShapeW W B) : WinN ((w.alloc (.map #[] 0)).alloc (winObj W B w.heap.size)) (w.heap.size + 1) w.heap.size W B 0 [] :=
  ⟨_, winAt_made w hS, InvW.empty hS.slot hS.b0⟩
theorem wAddN_any {w : World} {p m : Nat} {W B last : Int} {notes : List NoteW} (h : WinN w p m W B last notes) (at_ : Int) (hE : lookW last at_ = 0) (a : Option Addr) (len cap : Nat) (cs : List CntS) (hl : cs.length = len) (hm : len ≤ 1099511627776) (hnil : a = none → len = 0 ∧ cap = 0)
    (hc : CtsAt w a cs) (hr : ∀ c, c ∈ cs → RightC c) (hap : ∀ g off, a = some ⟨g, off, none⟩ → g ≠ p ∧ g ≠ m) :
    Calls Tryz.prog 42 #[.pointer (some ⟨p, 0, none⟩), .int .i64 at_, .slice a len cap] w fun e w' => e = .returned (.int .i64 0) ∧ WinN w' p m W B at_ (notes ++ newW at_ cs) ∧ Off (fun i => i = p ∨ i = m) w w' := by
  obtain ⟨f, h1, h2⟩ := h.ex
  exact (wadd_any h1 at_ hE a len cap cs hl hm hnil hc hr hap).mono fun e w' h => ⟨h.1, ⟨_, h.2.at', h2.add (lookW_ok hE).2.2 hr⟩, h.2.off⟩
theorem wSumN_any {w : World} {p m : Nat} {W B last : Int} {notes : List NoteW} (h : WinN w p m W B last notes) (at_ : Int) (hE : lookW last at_ = 0) :
    Calls Tryz.prog 68 #[.pointer (some ⟨p, 0, none⟩), .int .i64 at_] w fun e w' => e = .returned (.tuple #[ctV (winC (W / B) B at_ notes), .int .i64 0]) ∧ Below w.heap.size w w' := by
  obtain ⟨f, h1, h2⟩ := h.ex
  obtain ⟨lo, cnt, q1, q2⟩ := lo_cnt (K := at_ / (W / B)) (B := B) (Int.ediv_nonneg (lookW_ok hE).1 (by have := h1.shape.slot; omega)) h1.shape.b0
  have := wSum_any h1 hE _ rfl cnt lo q1 q2
  rw [h2.sum2 (lookW_ok hE).2.2 q1 q2] at this
  exact this
/-- What passed in the bucket ahead. -/
def pastC (b at_ : Int) (notes : List NoteW) : Int := (imgC (sumW (fun x => decide (x.at_ / b = at_ / b - 1)) notes)).p
theorem wwrongN_any {w : World} {p m : Nat} {W B last : Int} {notes : List NoteW} (h : WinN w p m W B last notes) (at_ : Int) : Calls Tryz.prog 72 #[.pointer (some ⟨p, 0, none⟩), .int .i64 at_] w fun e w' => e = .returned (.int .i64 (lookW last at_)) ∧ w' = w := wwrong_any p last at_ w h.cell
end Go.Proofs.YtemlafbkkaloiaaGreat

/- hot: how one rule at work lies in memory. -/
namespace Go.Proofs.YtemlafbkkaloiaaGreat
open Go.RowKit
set_option linter.unusedVariables false
set_option linter.unusedSimpArgs false

/-- A value that is kept: its window's blocks, and what was noted. -/
structure HW where
  key : ByteArray
  p : Nat
  m : Nat
  last : Int
  notes : List NoteW
/-- What stays of one: its rule, its seed, its blocks. -/
structure HotC where
  R : HotS
  seed : Int
  hb : Nat
  B : Nat
  M : Nat
  N : Nat
  mw : Nat
  sb : Nat
/-- What turns. -/
structure HotV where
  L : List LNode
  WS : List HW
  last : Int
  ls : Int
  sn : List NoteS
  v : Value
  bs : List BkS
def HotC.W (c : HotC) : Int := c.R.secs * 1000000
def HotC.sh (c : HotC) : ShapeS := ⟨c.W, 10, 4, 256, c.seed⟩
def findW (WS : List HW) (s : ByteArray) : Option HW := WS.find? (fun x => decide (x.key = s))
def hotCells (c : HotC) (last : Int) : Array Value := #[.string c.R.res, .int .i64 c.R.idx, .int .i64 c.R.cnt, .int .i64 c.R.secs, .slice c.R.ia c.R.il c.R.ic, .pointer (some ⟨c.B, 0, none⟩), .map (some c.mw), .pointer (some ⟨c.sb, 0, none⟩), .int .i64 last]
/-- Whose block is it? -/
structure HotCol (c : HotC) (s : HotV) (col : Nat → Nat) : Prop where
  lru : ∀ i, Lown c.B c.M s.L i → col i = 1
  sk : ∀ i, SkOwn c.sb s.v s.bs i → col i = 2
  map : col c.mw = 3
  head : col c.hb = 4
  items : ∀ g off, c.R.ia = some ⟨g, off, none⟩ → col g = 5
  wins : ∀ x, x ∈ s.WS → col x.p = 6 + x.p ∧ col x.m = 6 + x.p
structure HotCore (w : World) (c : HotC) (s : HotV) : Prop where
  head : w.heap[c.hb]? = some (.cells (hotCells c s.last) 64)
  ok : HotOk w c.R
  fine : hotE c.R = 0
  ilt : ∀ g off, c.R.ia = some ⟨g, off, none⟩ → g < w.heap.size
  lru : Lru w c.B c.M c.N s.L
  wmap : ∃ F n, MapV w 9 c.mw F n ∧ n ≤ s.WS.length ∧ ∀ k : ByteArray, k.size ≤ maxLen → F (.string k) = (findW s.WS k).map (fun x => .pointer (some ⟨x.p, 0, none⟩))
  wins : ∀ x, x ∈ s.WS → WinN w x.p x.m c.W 10 x.last x.notes ∧ x.last ≤ s.last
  sk : SkInv w c.sb c.sh (c.R.secs * 100000) s.ls s.sn s.v s.bs
  lsl : s.ls ≤ s.last
  skf : s.bs.length ≤ 1099511627777
  l0 : 0 ≤ s.last
  l1 : s.last ≤ 1152921504606846976
  keys : (s.WS.map (·.key)).Nodup
  ps : (s.WS.map (·.p)).Nodup
  s0 : 0 ≤ c.seed
  s1 : c.seed ≤ 18446744073709551615
  col : ∃ col, HotCol c s col
structure HotAt (w : World) (c : HotC) (s : HotV) : Prop extends HotCore w c s where
  same : ∀ k, hasA (pr s.L) k = (findW s.WS k).isSome
  few : s.WS.length ≤ 4096
def HOwn (c : HotC) (s : HotV) (i : Nat) : Prop := Lown c.B c.M s.L i ∨ SkOwn c.sb s.v s.bs i ∨ i = c.mw ∨ i = c.hb ∨ ∃ x, x ∈ s.WS ∧ (i = x.p ∨ i = x.m)

theorem hot_parts {h : HotS} (e : hotE h = 0) : (0 ≤ h.cnt ∧ h.cnt ≤ 1099511627776) ∧ (1 ≤ h.secs ∧ h.secs ≤ 60) ∧ ∀ x, x ∈ h.items → 0 ≤ x.cnt ∧ x.cnt ≤ 1099511627776 := by
  have hb : (hot1B h && (hot2B h && hot3B h)) = true := by
    unfold hotE at e
    cases hn : namedB h.res [] <;> cases hh : (hot1B h && (hot2B h && hot3B h)) <;> simp [lookE, hn, hh] at e ⊢
  simp only [Bool.and_eq_true, hot1B, hot2B, hot3B, inR, decide_eq_true_eq] at hb
  obtain ⟨⟨_, h1, h2⟩, ⟨⟨⟨h3, h4⟩, _⟩, _⟩, h5⟩ := hb
  refine ⟨⟨h1, h2⟩, ⟨h3, h4⟩, fun x hx => ?_⟩
  have := h5
  rw [Bool.not_eq_true', List.any_eq_false] at this
  have hx2 := this x hx
  simp only [itemBad, inR, Bool.or_eq_true, Bool.not_eq_true', Bool.and_eq_false_iff, decide_eq_false_iff_not, decide_eq_true_eq, not_or] at hx2
  omega
theorem HotCore.shW {w : World} {c : HotC} {s : HotV} (k : HotCore w c s) : ShapeW c.W 10 := by
  obtain ⟨_, ⟨h1, h2⟩, _⟩ := hot_parts k.fine
  refine ⟨?_, ?_, by omega, by omega, ?_⟩ <;> unfold HotC.W <;> omega
theorem HotC.shOk {c : HotC} (h1 : 1 ≤ c.R.secs) (h2 : c.R.secs ≤ 60) (s0 : 0 ≤ c.seed) (s1 : c.seed ≤ 18446744073709551615) : ShapeOk c.sh (c.R.secs * 100000) := by
  constructor <;> (try simp only [HotC.sh, HotC.W]) <;> omega
theorem HotCore.shS {w : World} {c : HotC} {s : HotV} (k : HotCore w c s) : ShapeOk c.sh (c.R.secs * 100000) := by
  obtain ⟨_, ⟨h1, h2⟩, _⟩ := hot_parts k.fine
  exact HotC.shOk h1 h2 k.s0 k.s1
theorem HotCore.wb {w : World} {c : HotC} {s : HotV} (k : HotCore w c s) : c.W / 10 = c.R.secs * 100000 := by unfold HotC.W; omega
theorem HotCore.lt {w : World} {c : HotC} {s : HotV} (k : HotCore w c s) {i : Nat} (hi : HOwn c s i) : i < w.heap.size := by
  rcases hi with h | h | rfl | rfl | ⟨x, hx, h⟩
  · exact k.lru.lt h
  · exact k.sk.at_.lt h
  · obtain ⟨F, n, h1, _⟩ := k.wmap
    exact h1.lt
  · exact (Array.getElem?_eq_some_iff.1 k.head).1
  · obtain ⟨h1, _⟩ := k.wins x hx
    rcases h with rfl | rfl
    · exact h1.lt.1
    · exact h1.lt.2
theorem HotOk.kept {w w' : World} {h : HotS} (k : HotOk w h) (hz : w.heap.size ≤ w'.heap.size) (hk : ∀ g off, h.ia = some ⟨g, off, none⟩ → w'.heap[g]? = w.heap[g]?) : HotOk w' h := by
  refine ⟨k.z, k.l, k.lc, k.b, k.nil, ?_, k.iz⟩
  rcases k.at_ with h1 | ⟨b, off, h1, h2, h3⟩
  · exact Or.inl h1
  · exact Or.inr ⟨b, off, h1, Nat.lt_of_lt_of_le h2 hz, fun j r hj i u hi hu => (World.cell?_of_block (a := ⟨b, off + j * 2 + i, none⟩) (hk b off h1)).trans (h3 j r hj i u hi hu)⟩
/-- It stays, where its blocks do. -/
theorem HotCore.kept {w w' : World} {c : HotC} {s : HotV} (k : HotCore w c s) (hz : w.heap.size ≤ w'.heap.size) (hk : ∀ i, HOwn c s i → w'.heap[i]? = w.heap[i]?) (hi : ∀ g off, c.R.ia = some ⟨g, off, none⟩ → w'.heap[g]? = w.heap[g]?) : HotCore w' c s := by
  refine ⟨(hk _ (Or.inr (Or.inr (Or.inr (Or.inl rfl))))).trans k.head, k.ok.kept hz hi, k.fine, fun g off e => Nat.lt_of_lt_of_le (k.ilt g off e) hz, k.lru.kept (fun b hb => hk b (Or.inl hb)), ?_, fun x hx => ?_, ⟨k.sk.at_.kept (fun i hi => hk i (Or.inr (Or.inl hi))), k.sk.inv⟩, k.lsl, k.skf, k.l0, k.l1, k.keys, k.ps, k.s0, k.s1, k.col⟩
  · obtain ⟨F, n, h1, h2, h3⟩ := k.wmap
    exact ⟨F, n, h1.kept (hk _ (Or.inr (Or.inr (Or.inl rfl)))), h2, h3⟩
  · obtain ⟨h1, h2⟩ := k.wins x hx
    exact ⟨h1.kept (hk _ (Or.inr (Or.inr (Or.inr (Or.inr ⟨x, hx, Or.inl rfl⟩))))) (hk _ (Or.inr (Or.inr (Or.inr (Or.inr ⟨x, hx, Or.inr rfl⟩))))), h2⟩
theorem RowsAt.blk {w : World} {a : Option Addr} {n : Nat} {rs : List (List Value)} (h : RowsAt w a n rs) (hne : rs ≠ []) {g off : Nat} (e : a = some ⟨g, off, none⟩) : g < w.heap.size := by
  rcases h with h | ⟨b, o, h1, h2, _⟩
  · exact absurd h hne
  · rw [e] at h1; injection h1 with h1; injection h1 with h1; subst h1; exact h2
theorem HotCore.below {w w' : World} {c : HotC} {s : HotV} (k : HotCore w c s) (hb : Below w.heap.size w w') : HotCore w' c s := by
  refine ⟨(hb.block _ (k.lt (Or.inr (Or.inr (Or.inr (Or.inl rfl)))))).trans k.head, ⟨k.ok.z, k.ok.l, k.ok.lc, k.ok.b, k.ok.nil, k.ok.at_.below (Nat.le_refl _) hb, k.ok.iz⟩, k.fine, fun g off e => Nat.lt_of_lt_of_le (k.ilt g off e) hb.size, k.lru.below hb, ?_, fun x hx => ?_, k.sk.below hb, k.lsl, k.skf, k.l0, k.l1, k.keys, k.ps, k.s0, k.s1, k.col⟩
  · obtain ⟨F, n, h1, h2, h3⟩ := k.wmap
    exact ⟨F, n, h1.below hb, h2, h3⟩
  · obtain ⟨h1, h2⟩ := k.wins x hx
    exact ⟨h1.below hb, h2⟩
theorem HotCore.cells {w : World} {c : HotC} {s : HotV} (k : HotCore w c s) : w.cell? ⟨c.hb, 0, none⟩ = some (.string c.R.res) ∧ w.cell? ⟨c.hb, 1, none⟩ = some (.int .i64 c.R.idx) ∧ w.cell? ⟨c.hb, 2, none⟩ = some (.int .i64 c.R.cnt) ∧ w.cell? ⟨c.hb, 3, none⟩ = some (.int .i64 c.R.secs) ∧ w.cell? ⟨c.hb, 4, none⟩ = some (.slice c.R.ia c.R.il c.R.ic) ∧
    w.cell? ⟨c.hb, 5, none⟩ = some (.pointer (some ⟨c.B, 0, none⟩)) ∧ w.cell? ⟨c.hb, 6, none⟩ = some (.map (some c.mw)) ∧ w.cell? ⟨c.hb, 7, none⟩ = some (.pointer (some ⟨c.sb, 0, none⟩)) ∧ w.cell? ⟨c.hb, 8, none⟩ = some (.int .i64 s.last) := by
  have h := k.head
  refine ⟨?_, ?_, ?_, ?_, ?_, ?_, ?_, ?_, ?_⟩ <;> simp [World.cell?, h, hotCells]
theorem HotAt.below {w w' : World} {c : HotC} {s : HotV} (k : HotAt w c s) (hb : Below w.heap.size w w') : HotAt w' c s := ⟨k.toHotCore.below hb, k.same, k.few⟩
theorem HotAt.kept {w w' : World} {c : HotC} {s : HotV} (k : HotAt w c s) (hz : w.heap.size ≤ w'.heap.size) (hk : ∀ i, HOwn c s i → w'.heap[i]? = w.heap[i]?) (hi : ∀ g off, c.R.ia = some ⟨g, off, none⟩ → w'.heap[g]? = w.heap[g]?) : HotAt w' c s := ⟨k.toHotCore.kept hz hk hi, k.same, k.few⟩
end Go.Proofs.YtemlafbkkaloiaaGreat

/- hot: what a value's limit is; what counts as used. -/
namespace Go.Proofs.YtemlafbkkaloiaaGreat
open Go.RowKit
set_option linter.unusedVariables false
set_option linter.unusedSimpArgs false

def limI (R : HotS) (s : ByteArray) : Int := match R.items.find? (fun x => x.val.toList == s.toList) with | some x => x.cnt | none => R.cnt
theorem limI_bd {R : HotS} (h : hotE R = 0) (s : ByteArray) : 0 ≤ limI R s ∧ limI R s ≤ 1099511627776 := by
  obtain ⟨h1, _, h3⟩ := hot_parts h
  unfold limI
  cases hf : R.items.find? (fun x => x.val.toList == s.toList) with
  | none => exact h1
  | some x => exact h3 x (List.mem_of_find?_eq_some hf)
theorem find_idxI {p : ItemS → Bool} {bs : List ItemS} (h : idxI p bs = -1) : bs.find? p = none := by
  rcases idxI_cases p bs with ⟨_, h1⟩ | ⟨k, hk, h1, _⟩
  · rw [List.find?_eq_none]; intro x hx; rw [h1 x hx]; simp
  · rw [h1] at h; omega
theorem find_at {p : ItemS → Bool} : ∀ {bs : List ItemS} {k : Nat} (hk : k < bs.length), p bs[k] = true → (∀ j (hj : j < k), p (bs[j]'(by omega)) = false) → bs.find? p = some bs[k]
  | x :: bs, 0, hk, h1, _ => by
    simp only [List.getElem_cons_zero] at h1 ⊢
    rw [List.find?_cons, h1]
  | x :: bs, k + 1, hk, h1, h2 => by
    have h0 := h2 0 (by omega)
    simp only [List.getElem_cons_zero] at h0
    rw [List.find?_cons, h0]
    exact find_at (bs := bs) (k := k) (by simpa using hk) (by simpa using h1) (fun j hj => by have := h2 (j + 1) (by omega); simpa using this)

theorem hlim1_any (x : ItemS) (q : Nat) (s : ByteArray) (w : World) (hq : w.cell? ⟨q, 0, none⟩ = some (.string s)) :
    Calls Tryz.prog 67 #[x.v, .pointer (some ⟨q, 0, none⟩)] w fun e w' => e = .returned (.bool (x.val.toList == s.toList)) ∧ Below w.heap.size w w' := by
  have hql := World.block_lt_of_cell? w _ hq
  have hq2 := (World.cell?_alloc_lt w (.cells #[.string x.val, .int .i64 x.cnt] 52) _ hql).trans hq
  have hb : Below w.heap.size w (w.alloc (.cells #[.string x.val, .int .i64 x.cnt] 52)) := (Below.refl _ _).alloc (Nat.le_refl _) _
  have HB := Lib.hid hb
  unfold ItemS.v
  clear hb
  go_enter Tryz.func67, Tryz.ntmps67
  go_wp2_with (fail)
  go_ret
  exact ⟨rfl, HB.out⟩
theorem enHL1 (x : ItemS) (q : Nat) (wx : World) : (callFunc 67 (#[x.v] ++ #[.pointer (some ⟨q, 0, none⟩)])).run Tryz.prog wx = .ok (.enter 67 (#[x.v] ++ #[.pointer (some ⟨q, 0, none⟩)])) wx := by kernel_rfl
def ruleO (R : HotS) : Obj := .cells #[.string R.res, .int .i64 R.idx, .int .i64 R.cnt, .int .i64 R.secs, .slice R.ia R.il R.ic] 60

set_option maxHeartbeats 3200000 in
set_option maxRecDepth 100000 in
theorem hlimit_any {w : World} (R : HotS) (ok : HotOk w R) (s : ByteArray) :
    Calls Tryz.prog 38 #[R.v, .string s] w fun e w' => e = .returned (.int .i64 (limI R s)) ∧ Below w.heap.size w w' := by
  have hn1 := new_blockS w (ruleO R)
  have hb1 : Below w.heap.size w (w.alloc (ruleO R)) := (Below.refl _ _).alloc (Nat.le_refl _) _
  have hb2 : Below w.heap.size w ((w.alloc (ruleO R)).alloc (.cells #[.string s] 9)) := hb1.alloc (by simp) _
  have hcs := new_blockS (w.alloc (ruleO R)) (.cells #[.string s] 9)
  rw [show (w.alloc (ruleO R)).heap.size = w.heap.size + 1 by simp] at hcs
  have hcr : ((w.alloc (ruleO R)).alloc (.cells #[.string s] 9)).heap[w.heap.size]? = some (ruleO R) := (Below.heap_alloc _ _ _ (by simp)).trans hn1
  have HB2 := Lib.hid hb2
  have HCS := Lib.hid hcs
  have HCR := Lib.hid hcr
  have HIX := Lib.hid (itemidx_any (w := (w.alloc (ruleO R)).alloc (.cells #[.string s] 9)) R.ia R.il R.ic R.items ok.l (by have := ok.b; omega) (ok.at_.below (Nat.le_refl _) hb2) 67 #[.pointer (some ⟨w.heap.size + 1, 0, none⟩)] (fun x => x.val.toList == s.toList)
    (fun x hx wx => enHL1 x _ wx) (fun x hx wx hw => hlim1_any x _ s wx ((hw.cell (p := ⟨w.heap.size + 1, 0, none⟩) (by simp)).trans (by simp only [World.cell?, hcs]; rfl))))
  have HOK := Lib.hid ok
  clear ok hn1 hb1 hb2 hcs hcr
  unfold HotS.v
  unfold ruleO at HIX
  go_enter Tryz.func38, Tryz.ntmps38
  go_wp2_with (fail)
  refine HIX.out.mono ?_
  rintro e w2 ⟨rfl, h2⟩
  have hb := HB2.out.trans (h2.mono HB2.out.size)
  have hr := (h2.block w.heap.size (by simp; omega)).trans HCR.out
  have HB := Lib.hid hb
  have c2 : w2.cell? ⟨w.heap.size, 2, none⟩ = some (.int .i64 R.cnt) := by simp only [World.cell?, hr]; rfl
  have c4 : w2.cell? ⟨w.heap.size, 4, none⟩ = some (.slice R.ia R.il R.ic) := by simp only [World.cell?, hr]; rfl
  rcases idxI_cases (fun x : ItemS => x.val.toList == s.toList) R.items with ⟨h1, h3⟩ | ⟨k, hk, h1, h3, h4⟩
  · rw [h1]
    have hf := find_idxI h1
    have HL := Lib.hid (show limI R s = R.cnt by unfold limI; rw [hf])
    clear HIX h1 h3 hf hr hb h2 HCS HCR HB2
    go_wp2_with (fail)
    go_ret
    exact ⟨by rw [HL.out]; rfl, HB.out⟩
  · rw [h1]
    have hf := find_at (p := fun x : ItemS => x.val.toList == s.toList) hk h3 h4
    have HL := Lib.hid (show limI R s = (R.items[k]'hk).cnt by unfold limI; rw [hf])
    obtain ⟨g, off, hia, hg, d0, d1⟩ := items_get (HOK.out.at_.below (Nat.le_refl _) hb) hk
    have hkl : k < R.il := by have := HOK.out.l; omega
    have k0 : (0 : Int) ≤ k := by omega
    have k1 : (k : Int) < R.il := by omega
    rw [hia] at c4
    generalize (R.items[k]'hk).cnt = X at *
    clear HIX h1 h3 h4 hf hr hb h2 HCS HCR HB2 d0 hg hia
    go_wp2_with (fail)
    go_ret
    exact ⟨by rw [HL.out]; rfl, HB.out⟩
end Go.Proofs.YtemlafbkkaloiaaGreat

/- hot: the calls that read alone: wrong, used, Used, Look, Limit. -/
namespace Go.Proofs.YtemlafbkkaloiaaGreat
open Go.RowKit
set_option linter.unusedVariables false
set_option linter.unusedSimpArgs false

theorem under_mapW : Tryz.prog.underlying 61 = some (.map 9 79) := by kernel_rfl
theorem zero_ptrW (w : World) : (zeroValue 79).run Tryz.prog w = .ok (.pointer none) w := by kernel_rfl
theorem findW_mem {WS : List HW} {k : ByteArray} {x : HW} (h : findW WS k = some x) : x ∈ WS ∧ x.key = k := by
  unfold findW at h
  have h2 := List.find?_some h
  exact ⟨List.mem_of_find?_eq_some h, by simpa using h2⟩
/-- What the map of windows gives. -/
theorem HotCore.look {w : World} {c : HotC} {s : HotV} (k : HotCore w c s) {key : ByteArray} (hk : key.size ≤ maxLen) :
    (Instr.lookup 61 (.map (some c.mw)) (.string key) true).run Tryz.prog w = .ok (.tuple #[.pointer ((findW s.WS key).map (fun x => ⟨x.p, 0, none⟩)), .bool (findW s.WS key).isSome]) w ∧
    (Instr.lookup 61 (.map (some c.mw)) (.string key) false).run Tryz.prog w = .ok (.pointer ((findW s.WS key).map (fun x => ⟨x.p, 0, none⟩))) w := by
  obtain ⟨F, n, h1, h2, h3⟩ := k.wmap
  have a1 := h1.look true strKeyed under_mapW (zero_ptrW w) (skeyOf hk)
  have a2 := h1.look false strKeyed under_mapW (zero_ptrW w) (skeyOf hk)
  rw [if_pos rfl, h3 key hk] at a1
  rw [if_neg (by simp), h3 key hk] at a2
  cases hf : findW s.WS key with
  | none => rw [hf] at a1 a2; exact ⟨a1, a2⟩
  | some x => rw [hf] at a1 a2; exact ⟨a1, a2⟩
/-- What counts as used of a value. -/
def usedH (c : HotC) (s : HotV) (at_ : Int) (key : ByteArray) : Int := match findW s.WS key with | some x => (winC (c.R.secs * 100000) 10 at_ x.notes).p | none => estN c.sh (c.R.secs * 100000) at_ key s.sn
theorem estN_bd {h : ShapeS} {b at_ : Int} {key : ByteArray} {notes : List NoteS} (hn : NonNeg notes) : 0 ≤ estN h b at_ key notes ∧ estN h b at_ key notes ≤ 4611686018427387904 := by
  unfold estN
  refine leastS_bd ?_ _
  intro r
  exact capS_nonneg (sumP_nonneg hn)
theorem HotCore.usedBd {w : World} {c : HotC} {s : HotV} (k : HotCore w c s) (at_ : Int) (key : ByteArray) : 0 ≤ usedH c s at_ key ∧ usedH c s at_ key ≤ 4611686018427387904 := by
  unfold usedH
  cases hf : findW s.WS key with
  | none => exact estN_bd k.sk.inv.nonneg
  | some x =>
    have := winC_right (b := c.R.secs * 100000) (B := 10) (k.wins x (findW_mem hf).1).1.right.1 at_
    exact ⟨this.p0, this.p1⟩
/-- The error of a time, and of a value. -/
def hwE (last at_ : Int) (key : ByteArray) : Int := if at_ < 0 ∨ 1152921504606846976 < at_ then 2 else if 64 < (key.size : Int) then 5 else if at_ < last then 7 else 0
theorem hwE_ok {last at_ : Int} {key : ByteArray} (h : hwE last at_ key = 0) : 0 ≤ at_ ∧ at_ ≤ 1152921504606846976 ∧ last ≤ at_ ∧ key.size ≤ 64 := by
  unfold hwE at h
  split at h
  · omega
  · split at h
    · omega
    · split at h
      · omega
      · omega

set_option maxHeartbeats 3200000 in
theorem hwrong_nil (at_ : Int) (key : ByteArray) (w : World) : Calls Tryz.prog 39 #[.pointer none, .int .i64 at_, .string key] w fun e w' => e = .returned (.int .i64 1) ∧ w' = w := by
  go_enter Tryz.func39, Tryz.ntmps39
  go_wp2_with (fail)
  go_ret
  exact ⟨rfl, rfl⟩
set_option maxHeartbeats 3200000 in
theorem hwrong_any (q : Nat) (last at_ : Int) (key : ByteArray) (w : World) (h : w.cell? ⟨q, 8, none⟩ = some (.int .i64 last)) : Calls Tryz.prog 39 #[.pointer (some ⟨q, 0, none⟩), .int .i64 at_, .string key] w fun e w' => e = .returned (.int .i64 (hwE last at_ key)) ∧ w' = w := by
  have HH := Lib.hid (fun x (h : hwE last at_ key = x) => h)
  by_cases h1 : at_ < 0
  · have hr : hwE last at_ key = 2 := by unfold hwE; rw [if_pos (Or.inl h1)]
    rw [hr]
    go_enter Tryz.func39, Tryz.ntmps39
    go_wp2_with (fail)
    go_ret
    exact ⟨rfl, rfl⟩
  · by_cases h2 : 1152921504606846976 < at_
    · have hr : hwE last at_ key = 2 := by unfold hwE; rw [if_pos (Or.inr h2)]
      rw [hr]
      go_enter Tryz.func39, Tryz.ntmps39
      go_wp2_with (fail)
      go_ret
      exact ⟨rfl, rfl⟩
    · by_cases h3 : 64 < (key.size : Int)
      · have hr : hwE last at_ key = 5 := by unfold hwE; rw [if_neg (by omega), if_pos h3]
        rw [hr]
        go_enter Tryz.func39, Tryz.ntmps39
        go_wp2_with (fail)
        go_ret
        exact ⟨rfl, rfl⟩
      · by_cases h4 : at_ < last
        · have hr : hwE last at_ key = 7 := by unfold hwE; rw [if_neg (by omega), if_neg h3, if_pos h4]
          rw [hr]
          go_enter Tryz.func39, Tryz.ntmps39
          go_wp2_with (fail)
          go_ret
          exact ⟨rfl, rfl⟩
        · have hr : hwE last at_ key = 0 := by unfold hwE; rw [if_neg (by omega), if_neg h3, if_neg h4]
          rw [hr]
          go_enter Tryz.func39, Tryz.ntmps39
          go_wp2_with (fail)
          go_ret
          exact ⟨rfl, rfl⟩

set_option maxHeartbeats 3200000 in
set_option maxRecDepth 100000 in
theorem hwidth_any (R : HotS) (h1 : 1 ≤ R.secs) (h2 : R.secs ≤ 60) (w : World) : Calls Tryz.prog 24 #[R.v] w fun e w' => e = .returned (.int .i64 (R.secs * 1000000)) ∧ Below w.heap.size w w' := by
  have HB := Lib.hid (show Below w.heap.size w (w.alloc (ruleO R)) from (Below.refl _ _).alloc (Nat.le_refl _) _)
  unfold HotS.v
  unfold ruleO at HB
  generalize R.secs = X at *
  go_enter Tryz.func24, Tryz.ntmps24
  go_wp2_with (fail)
  go_ret
  exact ⟨rfl, HB.out⟩

set_option maxHeartbeats 3200000 in
set_option maxRecDepth 100000 in
theorem hused_any {w : World} {c : HotC} {s : HotV} (k : HotCore w c s) (at_ : Int) (h0 : s.last ≤ at_) (h1 : at_ ≤ 1152921504606846976) (key : ByteArray) (hk : key.size ≤ maxLen) :
    Calls Tryz.prog 40 #[.pointer (some ⟨c.hb, 0, none⟩), .int .i64 at_, .string key] w fun e w' => e = .returned (.int .i64 (usedH c s at_ key)) ∧ Below w.heap.size w w' := by
  obtain ⟨_, _, _, _, _, _, c6, c7, _⟩ := k.cells
  have hlk := (k.look hk).1
  have hl0 := k.l0
  have HU : Hid (∀ u, usedH c s at_ key = u → usedH c s at_ key = u) := fun u h => h
  cases hf : findW s.WS key with
  | none =>
    have hu : usedH c s at_ key = estN c.sh (c.R.secs * 100000) at_ key s.sn := by unfold usedH; rw [hf]
    rw [hu]
    rw [hf] at hlk
    have HE := skEstI_any k.sk k.shS at_ key hk
    have hls := k.lsl
    rw [show lookS s.ls at_ = 0 by unfold lookS; rw [if_neg (by omega), if_neg (by omega)], if_pos rfl] at HE
    generalize estN c.sh (c.R.secs * 100000) at_ key s.sn = X at *
    have HE := Lib.hid HE
    clear hf hu hls k HU
    go_enter Tryz.func40, Tryz.ntmps40
    go_wp2_with (fail)
    refine HE.out.mono ?_
    rintro e w2 ⟨rfl, h2⟩
    go_wp2_with (fail)
    go_ret
    exact ⟨rfl, h2⟩
  | some x =>
    have hu : usedH c s at_ key = (winC (c.R.secs * 100000) 10 at_ x.notes).p := by unfold usedH; rw [hf]
    rw [hu]
    rw [hf] at hlk
    obtain ⟨hw, hxl⟩ := k.wins x (findW_mem hf).1
    have HE := wSumN_any hw at_ (by unfold lookW; rw [if_neg (by omega), if_neg (by omega)])
    rw [k.wb] at HE
    generalize winC (c.R.secs * 100000) 10 at_ x.notes = X at *
    obtain ⟨xp, xb, xd, xe, xr, xm⟩ := X
    dsimp only [ctV] at *
    dsimp only [Option.map_some, Option.isSome_some] at hlk
    have HE := Lib.hid HE
    clear hf hu hw hxl k HU
    go_enter Tryz.func40, Tryz.ntmps40
    go_wp2_with (fail)
    refine HE.out.mono ?_
    rintro e w2 ⟨rfl, h2⟩
    have hb : Below w.heap.size w (w2.alloc (.cells #[.int .i64 xp, .int .i64 xb, .int .i64 xd, .int .i64 xe, .int .i64 xr, .int .i64 xm] 92)) := h2.alloc h2.size _
    have HB := Lib.hid hb
    clear h2 hb
    go_wp2_with (fail)
    go_ret
    exact ⟨rfl, HB.out⟩

set_option maxHeartbeats 3200000 in
set_option maxRecDepth 100000 in
theorem hUsed_any {w : World} {c : HotC} {s : HotV} (k : HotAt w c s) (at_ : Int) (key : ByteArray) (hk : key.size ≤ maxLen) :
    Calls Tryz.prog 16 #[.pointer (some ⟨c.hb, 0, none⟩), .int .i64 at_, .string key] w fun e w' => e = .returned (.tuple #[.int .i64 (if hwE s.last at_ key = 0 then usedH c s at_ key else 0), .int .i64 (hwE s.last at_ key)]) ∧ Below w.heap.size w w' := by
  obtain ⟨_, _, _, _, _, _, _, _, c8⟩ := k.cells
  have HW := Lib.hid (hwrong_any c.hb s.last at_ key w c8)
  by_cases hE : hwE s.last at_ key = 0
  · obtain ⟨a0, a1, a2, _⟩ := hwE_ok hE
    have HU := Lib.hid (hused_any k.toHotCore at_ a2 a1 key hk)
    rw [if_pos hE]
    rw [hE] at HW ⊢
    clear hE k c8
    generalize usedH c s at_ key = U at *
    go_enter Tryz.func16, Tryz.ntmps16
    go_wp2_with (fail)
    refine HW.out.mono ?_
    rintro e wq ⟨rfl, hq⟩
    have hq := hq.symm
    subst hq
    go_wp2_with (fail)
    refine HU.out.mono ?_
    rintro e w2 ⟨rfl, h2⟩
    go_wp2_with (fail)
    go_ret2
    exact ⟨rfl, h2⟩
  · rw [if_neg hE]
    have hne : (hwE s.last at_ key != 0) = true := by simpa using hE
    clear hE k c8
    generalize hwE s.last at_ key = E at *
    go_enter Tryz.func16, Tryz.ntmps16
    go_wp2_with (fail)
    refine HW.out.mono ?_
    rintro e wq ⟨rfl, hq⟩
    have hq := hq.symm
    subst hq
    go_wp2_with (fail)
    go_ret2
    exact ⟨rfl, Below.refl _ _⟩

def badH (n : Int) : Bool := decide (n < 1) || decide (1099511627776 < n)
def lookHE (last at_ : Int) (key : ByteArray) (n : Int) : Int := if badH n then 2 else hwE last at_ key
def lookHB (c : HotC) (s : HotV) (at_ : Int) (key : ByteArray) (n : Int) : Bool := decide (lookHE s.last at_ key n = 0) && decide (usedH c s at_ key ≤ limI c.R key - n)
theorem badH_no {n : Int} (h : badH n = false) : 1 ≤ n ∧ n ≤ 1099511627776 := by
  simp only [badH, Bool.or_eq_false_iff, decide_eq_false_iff_not] at h; omega
theorem lookHE_ok {last at_ n : Int} {key : ByteArray} (h : lookHE last at_ key n = 0) : (1 ≤ n ∧ n ≤ 1099511627776) ∧ hwE last at_ key = 0 := by
  unfold lookHE at h
  cases hb : badH n
  · rw [hb, if_neg (by simp)] at h
    exact ⟨badH_no hb, h⟩
  · rw [hb, if_pos rfl] at h; omega

set_option maxHeartbeats 6400000 in
set_option maxRecDepth 100000 in
theorem hlook_any {w : World} {c : HotC} {s : HotV} (k : HotAt w c s) (at_ : Int) (key : ByteArray) (hk : key.size ≤ maxLen) (n : Int) :
    Calls Tryz.prog 17 #[.pointer (some ⟨c.hb, 0, none⟩), .int .i64 at_, .string key, .int .i64 n] w fun e w' => e = .returned (.tuple #[.bool (lookHB c s at_ key n), .int .i64 (lookHE s.last at_ key n)]) ∧ Below w.heap.size w w' := by
  obtain ⟨c0, c1, c2, c3, c4, c5, c6, c7, c8⟩ := k.cells
  have HW := Lib.hid (hwrong_any c.hb s.last at_ key w c8)
  cases hbn : badH n with
  | true =>
    have hE : lookHE s.last at_ key n = 2 := by unfold lookHE; rw [hbn, if_pos rfl]
    have hBB : lookHB c s at_ key n = false := by unfold lookHB; rw [hE]; rfl
    rw [hE, hBB]
    clear k c0 c1 c2 c3 c4 c5 c6 c7 c8 hE hBB
    simp only [badH, Bool.or_eq_true, decide_eq_true_eq] at hbn
    by_cases hn1 : n < 1
    · clear hbn
      go_enter Tryz.func17, Tryz.ntmps17
      go_wp2_with (fail)
      go_ret2
      exact ⟨rfl, Below.refl _ _⟩
    · have hn2 : 1099511627776 < n := by omega
      clear hbn
      go_enter Tryz.func17, Tryz.ntmps17
      go_wp2_with (fail)
      go_ret2
      exact ⟨rfl, Below.refl _ _⟩
  | false =>
    obtain ⟨hn1, hn2⟩ := badH_no hbn
    have hE : lookHE s.last at_ key n = hwE s.last at_ key := by unfold lookHE; rw [hbn, if_neg (by simp)]
    have m1 : ¬ n < 1 := by omega
    have m2 : ¬ 1099511627776 < n := by omega
    by_cases hz : hwE s.last at_ key = 0
    · have hBB : lookHB c s at_ key n = decide (usedH c s at_ key ≤ limI c.R key - n) := by unfold lookHB; rw [hE, hz]; simp
      obtain ⟨a0, a1, a2, _⟩ := hwE_ok hz
      obtain ⟨u0, u1⟩ := k.usedBd at_ key
      obtain ⟨l0, l1⟩ := limI_bd k.fine key
      rw [hE, hz, hBB]
      rw [hz] at HW
      have HU : Hid (∀ wx, Below w.heap.size w wx → Calls Tryz.prog 40 #[.pointer (some ⟨c.hb, 0, none⟩), .int .i64 at_, .string key] wx fun e w' => e = .returned (.int .i64 (usedH c s at_ key)) ∧ Below wx.heap.size wx w') := fun wx hx => hused_any (k.below hx).toHotCore at_ a2 a1 key hk
      have HLM : Hid (∀ wx, Below w.heap.size w wx → Calls Tryz.prog 38 #[.agg #[.string c.R.res, .int .i64 c.R.idx, .int .i64 c.R.cnt, .int .i64 c.R.secs, .slice c.R.ia c.R.il c.R.ic], .string key] wx fun e w' => e = .returned (.int .i64 (limI c.R key)) ∧ Below wx.heap.size wx w') := fun wx hx => hlimit_any c.R (k.below hx).ok key
      have SB : Hid (∀ wx, Below w.heap.size w wx → (fun wx => ((wx.cell? ⟨c.hb, 0, none⟩ = some (.string c.R.res) ∧ wx.cell? ⟨c.hb, 1, none⟩ = some (.int .i64 c.R.idx) ∧ wx.cell? ⟨c.hb, 2, none⟩ = some (.int .i64 c.R.cnt) ∧ wx.cell? ⟨c.hb, 3, none⟩ = some (.int .i64 c.R.secs) ∧ wx.cell? ⟨c.hb, 4, none⟩ = some (.slice c.R.ia c.R.il c.R.ic)) ∧ Below w.heap.size w wx)) wx) := fun wx hx => by
        obtain ⟨d0, d1, d2, d3, d4, _⟩ := (k.below hx).cells
        exact ⟨⟨d0, d1, d2, d3, d4⟩, hx⟩
      clear k hbn hE hBB hz
      generalize usedH c s at_ key = U at *
      generalize limI c.R key = LM at *
      have hwr : IntKind.i64.wrap (LM - n) = LM - n := IntWalk.i64_in _ (by omega)
      go_enter Tryz.func17, Tryz.ntmps17
      go_wp2_with (fail)
      refine HW.out.mono ?_
      rintro e wq ⟨rfl, hq⟩
      have hq := hq.symm
      subst hq
      go_wp2_with (fail)
      refine wp_region_noPanic ?_
      refine wp_region_held_drew (S := (fun wx => ((wx.cell? ⟨c.hb, 0, none⟩ = some (.string c.R.res) ∧ wx.cell? ⟨c.hb, 1, none⟩ = some (.int .i64 c.R.idx) ∧ wx.cell? ⟨c.hb, 2, none⟩ = some (.int .i64 c.R.cnt) ∧ wx.cell? ⟨c.hb, 3, none⟩ = some (.int .i64 c.R.secs) ∧ wx.cell? ⟨c.hb, 4, none⟩ = some (.slice c.R.ia c.R.il c.R.ic)) ∧ Below w.heap.size w wx))) (by kernel_rfl) ?_ (fun hHeld => ?_)
      · exact SB.out _ (Below.refl _ _).drew
      refine wpAnyH_take (i := 0) (v := ?_) rfl (by kernel_rfl) (by kernel_rfl) (by kernel_rfl) (fun _ _ _ h => h) (Or.inl ⟨by rfl, ?hy⟩) (by assumption) ?_
      case hy => intro w hSw; (try dsimp only at hSw); go_simp; try with_reducible rfl
      try simp only [Act.put, List.getElem_toArray, List.getElem_cons_succ, List.getElem_cons_zero, List.setIfInBounds_toArray, List.set_cons_zero, List.set_cons_succ]
      refine wpAnyH_take (i := 1) (v := ?_) rfl (by kernel_rfl) (by kernel_rfl) (by kernel_rfl) (fun _ _ _ h => h) (Or.inl ⟨by rfl, ?hy⟩) (by assumption) ?_
      case hy => intro w hSw; (try dsimp only at hSw); go_simp; try with_reducible rfl
      try simp only [Act.put, List.getElem_toArray, List.getElem_cons_succ, List.getElem_cons_zero, List.setIfInBounds_toArray, List.set_cons_zero, List.set_cons_succ]
      refine wpAnyH_take (i := 2) (v := ?_) rfl (by kernel_rfl) (by kernel_rfl) (by kernel_rfl) (fun _ _ _ h => h) (Or.inl ⟨by rfl, ?hy⟩) (by assumption) ?_
      case hy => intro w hSw; (try dsimp only at hSw); go_simp; try with_reducible rfl
      try simp only [Act.put, List.getElem_toArray, List.getElem_cons_succ, List.getElem_cons_zero, List.setIfInBounds_toArray, List.set_cons_zero, List.set_cons_succ]
      refine wpAnyH_take (i := 4) (v := ?_) rfl (by kernel_rfl) (by kernel_rfl) (by kernel_rfl) (fun _ _ _ h => h) (Or.inl ⟨by rfl, ?hy⟩) (by assumption) ?_
      case hy => intro w hSw; (try dsimp only at hSw); go_simp; try with_reducible rfl
      try simp only [Act.put, List.getElem_toArray, List.getElem_cons_succ, List.getElem_cons_zero, List.setIfInBounds_toArray, List.set_cons_zero, List.set_cons_succ]
      refine wpAnyH_take (i := 5) (v := ?_) rfl (by kernel_rfl) (by kernel_rfl) (by kernel_rfl) (fun _ _ _ h => h) (Or.inl ⟨by rfl, ?hy⟩) (by assumption) ?_
      case hy => intro w hSw; (try dsimp only at hSw); go_simp; try with_reducible rfl
      try simp only [Act.put, List.getElem_toArray, List.getElem_cons_succ, List.getElem_cons_zero, List.setIfInBounds_toArray, List.set_cons_zero, List.set_cons_succ]
      refine wpAnyH_take (i := 6) (v := ?_) rfl (by kernel_rfl) (by kernel_rfl) (by kernel_rfl) (fun _ _ _ h => h) (Or.inl ⟨by rfl, ?hy⟩) (by assumption) ?_
      case hy => intro w hSw; (try dsimp only at hSw); go_simp; try with_reducible rfl
      try simp only [Act.put, List.getElem_toArray, List.getElem_cons_succ, List.getElem_cons_zero, List.setIfInBounds_toArray, List.set_cons_zero, List.set_cons_succ]
      refine wpAnyH_take (i := 7) (v := ?_) rfl (by kernel_rfl) (by kernel_rfl) (by kernel_rfl) (fun _ _ _ h => h) (Or.inl ⟨by rfl, ?hy⟩) (by assumption) ?_
      case hy => intro w hSw; (try dsimp only at hSw); go_simp; try with_reducible rfl
      try simp only [Act.put, List.getElem_toArray, List.getElem_cons_succ, List.getElem_cons_zero, List.setIfInBounds_toArray, List.set_cons_zero, List.set_cons_succ]
      refine wpAnyH_take (i := 8) (v := ?_) rfl (by kernel_rfl) (by kernel_rfl) (by kernel_rfl) (fun _ _ _ h => h) (Or.inl ⟨by rfl, ?hy⟩) (by assumption) ?_
      case hy => intro w hSw; (try dsimp only at hSw); go_simp; try with_reducible rfl
      try simp only [Act.put, List.getElem_toArray, List.getElem_cons_succ, List.getElem_cons_zero, List.setIfInBounds_toArray, List.set_cons_zero, List.set_cons_succ]
      refine wpAnyH_take (i := 10) (v := ?_) rfl (by kernel_rfl) (by kernel_rfl) (by kernel_rfl) (fun _ _ _ h => h) (Or.inl ⟨by rfl, ?hy⟩) (by assumption) ?_
      case hy => intro w hSw; (try dsimp only at hSw); go_simp; try with_reducible rfl
      try simp only [Act.put, List.getElem_toArray, List.getElem_cons_succ, List.getElem_cons_zero, List.setIfInBounds_toArray, List.set_cons_zero, List.set_cons_succ]
      refine wpAnyH_ready (rs := [3]) (by kernel_rfl) (by simp) (AllReadyH.cons rfl (fun K hK => ?_) AllReadyH.nil)
      go_simp
      go_at_call 40; refine (HU.out _ hHeld.2).mono ?_; rintro e wq ⟨rfl, hbq⟩
      try (go_wp2_with fail)
      refine hK.out _ _ ?_ (fun hHeld => ?_)
      · exact SB.out _ (hHeld.2.trans (hbq.mono hHeld.2.size))
      clear hK K
      try simp only [Act.put, List.getElem_toArray, List.getElem_cons_succ, List.getElem_cons_zero, List.setIfInBounds_toArray, List.set_cons_zero, List.set_cons_succ]
      refine wpAnyH_ready (rs := [9]) (by kernel_rfl) (by simp) (AllReadyH.cons rfl (fun K hK => ?_) AllReadyH.nil)
      go_simp
      go_at_call 38; refine (HLM.out _ hHeld.2).mono ?_; rintro e wq ⟨rfl, hbq⟩
      try (go_wp2_with fail)
      refine hK.out _ _ ?_ (fun hHeld => ?_)
      · exact SB.out _ (hHeld.2.trans (hbq.mono hHeld.2.size))
      clear hK K
      try simp only [Act.put, List.getElem_toArray, List.getElem_cons_succ, List.getElem_cons_zero, List.setIfInBounds_toArray, List.set_cons_zero, List.set_cons_succ]
      refine wpAnyH_take (i := 11) (v := ?_) rfl (by kernel_rfl) (by kernel_rfl) (by kernel_rfl) (fun _ _ _ h => h) (Or.inl ⟨by rfl, ?hy⟩) (by assumption) ?_
      case hy => intro w hSw; (try dsimp only at hSw); go_simp; try with_reducible rfl
      try simp only [Act.put, List.getElem_toArray, List.getElem_cons_succ, List.getElem_cons_zero, List.setIfInBounds_toArray, List.set_cons_zero, List.set_cons_succ]
      refine wpAnyH_take (i := 12) (v := ?_) rfl (by kernel_rfl) (by kernel_rfl) (by kernel_rfl) (fun _ _ _ h => h) (Or.inl ⟨by rfl, ?hy⟩) (by assumption) ?_
      case hy => intro w hSw; (try dsimp only at hSw); go_simp; try with_reducible rfl
      try simp only [Act.put, List.getElem_toArray, List.getElem_cons_succ, List.getElem_cons_zero, List.setIfInBounds_toArray, List.set_cons_zero, List.set_cons_succ]
      refine wpAnyH_take (i := 13) (v := ?_) rfl (by kernel_rfl) (by kernel_rfl) (by kernel_rfl) (fun _ _ _ h => h) (Or.inl ⟨by rfl, ?hy⟩) (by assumption) ?_
      case hy => intro w hSw; (try dsimp only at hSw); go_simp; try with_reducible rfl
      try simp only [Act.put, List.getElem_toArray, List.getElem_cons_succ, List.getElem_cons_zero, List.setIfInBounds_toArray, List.set_cons_zero, List.set_cons_succ]
      refine wpAnyH_take (i := 14) (v := ?_) rfl (by kernel_rfl) (by kernel_rfl) (by kernel_rfl) (fun _ _ _ h => h) (Or.inl ⟨by rfl, ?hy⟩) (by assumption) ?_
      case hy => intro w hSw; (try dsimp only at hSw); go_simp; try with_reducible rfl
      try simp only [Act.put, List.getElem_toArray, List.getElem_cons_succ, List.getElem_cons_zero, List.setIfInBounds_toArray, List.set_cons_zero, List.set_cons_succ]
      refine wpAnyH_done (by kernel_rfl) ?_ _
      refine NoPanic.normal ?_
      go_wp2_with (fail)
      go_ret2
      exact ⟨rfl, hHeld.2⟩
    · have hBB : lookHB c s at_ key n = false := by unfold lookHB; rw [hE, decide_eq_false hz]; rfl
      have hne : (hwE s.last at_ key != 0) = true := by simpa using hz
      rw [hE, hBB]
      clear k hE hBB hz c0 c1 c2 c3 c4 c5 c6 c7 c8 hbn
      generalize hwE s.last at_ key = E at *
      go_enter Tryz.func17, Tryz.ntmps17
      go_wp2_with (fail)
      refine HW.out.mono ?_
      rintro e wq ⟨rfl, hq⟩
      have hq := hq.symm
      subst hq
      go_wp2_with (fail)
      go_ret2
      exact ⟨rfl, Below.refl _ _⟩

set_option maxHeartbeats 3200000 in
set_option maxRecDepth 100000 in
theorem hLimit_any {w : World} {c : HotC} {s : HotV} (k : HotAt w c s) (key : ByteArray) :
    Calls Tryz.prog 14 #[.pointer (some ⟨c.hb, 0, none⟩), .string key] w fun e w' => e = .returned (.int .i64 (limI c.R key)) ∧ Below w.heap.size w w' := by
  obtain ⟨c0, c1, c2, c3, c4, c5, c6, c7, c8⟩ := k.cells
  have HLM : Hid (Calls Tryz.prog 38 #[.agg #[.string c.R.res, .int .i64 c.R.idx, .int .i64 c.R.cnt, .int .i64 c.R.secs, .slice c.R.ia c.R.il c.R.ic], .string key] w fun e w' => e = .returned (.int .i64 (limI c.R key)) ∧ Below w.heap.size w w') := hlimit_any c.R k.ok key
  clear k
  go_enter Tryz.func14, Tryz.ntmps14
  go_wp2_with (fail)
  refine HLM.out.mono ?_
  rintro e w2 ⟨rfl, h2⟩
  go_wp2_with (fail)
  go_ret
  exact ⟨rfl, h2⟩
end Go.Proofs.YtemlafbkkaloiaaGreat
