import Derived.RangeFuncNested
import Derived.RangeFuncBound
import Derived.RangeFuncCalls
import Derived.RangeFuncLeaves
import Derived.Shelf.Abstract
import Derived.OwnWalkIn
import Derived.TacticsInMore
import Derived.LoopNIn
import Derived.LoopIn
import Derived.Laws.Rows
import Derived.Deep.RegionHeld3
import Derived.Test.YtemlafbkkaloiaaGreatGS0
import Derived.Test.YtemlafbkkaloiaaGreatGGWinD
import Derived.Test.YtemlafbkkaloiaaGreatHeldIn
import Derived.Test.YtemlafbkkaloiaaGreatGGHotR
import Derived.Test.YtemlafbkkaloiaaGreatGLruA
import Derived.Test.YtemlafbkkaloiaaGreatGGSkF
set_option linter.unusedVariables false
set_option linter.unusedSimpArgs false
namespace Go.Proofs.YtemlafbkkaloiaaGreat
open Go.RowKit Go.Shelf
attribute [local go_sem] Oper.semAt_some
def bksW (f : Int → Option CntS) (lo : Int) : Nat → List (Int × CntS)
  | 0 => []
  | n + 1 => bksW f lo n ++ (match f (lo + n) with | some c => [(lo + n, c)] | none => [])
theorem bksW_len (f : Int → Option CntS) (lo : Int) : ∀ n, (bksW f lo n).length ≤ n
  | 0 => Nat.le_refl _
  | n + 1 => by
    have := bksW_len f lo n
    rw [bksW]
    cases f (lo + n) <;> simp <;> omega
structure KeepW (n1 s : Nat) (W W' : World) : Prop where
  size : W.heap.size ≤ W'.heap.size
  low : ∀ i : Nat, i < n1 → i ≠ s → W'.heap[i]? = W.heap[i]?
  cells : ∀ (i : Nat) (o : Obj), W.heap[i]? = some o → o.isCells = true → i ≠ s → W'.heap[i]? = some o
theorem keepW_t {n1 s : Nat} {A B C : World} (h : KeepW n1 s A B) (k : KeepW n1 s B C) : KeepW n1 s A C := ⟨Nat.le_trans h.1 k.1, fun i hi hn => (k.2 i hi hn).trans (h.2 i hi hn), fun i o h1 h2 h3 => k.3 i o (h.3 i o h1 h2 h3) h2 h3⟩
theorem keepW_b {n1 s : Nat} {w : World} (hn : n1 ≤ w.heap.size) (W : World) (l : Nat) (o o' : Obj) (hl : w.heap.size ≤ l) (h : W.heap[l]? = some o) (hc : o.isCells = false) (_ : o.isWalk = false) : KeepW n1 s W (W.putObj l o') :=
  ⟨(grownBy_putObj' W l o').size, fun i hi _ => (grownBy_putObj' W l o').block i (by have := (Array.getElem?_eq_some_iff.1 h).1; omega) (by simp; omega), fun i x hx hxc _ => by
    refine ((grownBy_putObj' W l o').block i (Array.getElem?_eq_some_iff.1 hx).1 (fun e => ?_)).trans hx
    cases e
    rw [h] at hx; cases hx; rw [hc] at hxc; cases hxc⟩
theorem KeepW.cell {n1 s : Nat} {W W' : World} (h : KeepW n1 s W W') {q o : Nat} {v : Value} (hq : q ≠ s) (hv : W.cell? ⟨q, o, none⟩ = some v) : W'.cell? ⟨q, o, none⟩ = some v := by
  obtain ⟨x, hx⟩ : ∃ x, W.heap[q]? = some x := ⟨_, Array.getElem?_eq_getElem (World.block_lt_of_cell? W _ hv)⟩
  have hc : x.isCells = true := by
    have hv' := hv
    simp only [World.cell?, hx] at hv'
    cases x <;> simp [Obj.isCells] at hv' ⊢
  exact (World.cell?_of_block (w := W) (a := ⟨q, o, none⟩) ((h.cells q x hx hc hq).trans hx.symm)).trans hv
def bkV (D : Int) (x : Int × CntS) : Value := .agg #[.int .i64 (x.1 * D), .int .i64 x.2.p, .int .i64 x.2.b, .int .i64 x.2.d, .int .i64 x.2.e, .int .i64 x.2.r, .int .i64 x.2.m]
theorem grown_drewN (w : World) (n : Nat) : w.grownBy (w.drewN n) none := ⟨rfl, rfl, rfl, Nat.le_refl _, fun _ _ _ => rfl⟩
def GoodW (D : Int) (x : Int × CntS) : Prop := RightC x.2 ∧ 0 ≤ x.1 * D ∧ x.1 * D ≤ 1152921504606846976
set_option maxHeartbeats 6400000 in
set_option maxRecDepth 100000 in
theorem wat1_in {p m : Nat} {W B last at_ : Int} {f : Int → Option CntS} (a0 : 0 ≤ at_) (a1 : at_ ≤ 1152921504606846976) (n : Nat) (hn : 3 ≤ n) (n1 s bp ba : Nat) (hp : p < n1 ∧ p ≠ s) (hm : m < n1 ∧ m ≠ s) (hbp : bp < n1 ∧ bp ≠ s) (hba : ba < n1 ∧ ba ≠ s) (hs : s < n1) (K : Int) (hK : at_ / (W / B) = K) (cnt : Nat) (lo : Int)
    (hlo : lo = max 0 (K - B + 1)) (hcnt : (cnt : Int) = K - lo + 1) (l : Nat) (J Jx : List (Int × CntS) → World → Prop) (wS : World) (h : WinAt wS p m W B last f) (hn1 : n1 ≤ wS.heap.size) (hcp : wS.cell? ⟨bp, 0, none⟩ = some (.pointer (some ⟨p, 0, none⟩))) (hca : wS.cell? ⟨ba, 0, none⟩ = some (.int .i64 at_))
    (hJ : AbidesFrom wS.heap.size J)
    (hY : ∀ pre x W1, GoodW (W / B) x → J pre W1 → pre.length < 61 → YieldAt Fence.wide (n - 1) Tryz.prog l #[bkV (W / B) x] W1 fun e W' =>
      (e = .returned (.bool true) ∧ J (pre ++ [x]) W' ∧ KeepW n1 s W1 W') ∨ (e = .returned (.bool false) ∧ Jx (pre ++ [x]) W'))
    (h0 : J [] wS) :
    CallsIn Fence.wide n Tryz.prog 115 #[.func (.yield l) #[] #[], .pointer (some ⟨bp, 0, none⟩), .pointer (some ⟨ba, 0, none⟩)] wS fun e W' => (∃ v, e = .returned v) ∧
      ((∃ ys, ys = bksW f lo cnt ∧ J ys W') ∨ (∃ pre : List (Int × CntS), True ∧ Jx pre W')) := by
  have HBK := Lib.hid (fun (wx : World) (hx : WinAt wx p m W B last f) => wbucket_any p W B at_ h.shape a0 (by omega) wx hx.cells.1 hx.cells.2.1)
  have HH := Lib.hid h
  have HJ := Lib.hid hJ
  have HY := Lib.hid hY
  have H0 := Lib.hid h0
  have hb0 := h.shape.b0
  have hb1 := h.shape.b1
  have hslot := h.shape.slot
  have hsle := h.shape.le
  have hK0 : 0 ≤ K := by rw [← hK]; exact Int.ediv_nonneg a0 (by omega)
  have hK1 : K ≤ at_ := by rw [← hK]; exact Int.ediv_le_self _ a0
  have hKm : ∀ i, 0 ≤ i → i ≤ K → 0 ≤ i * (W / B) ∧ i * (W / B) ≤ at_ := fun i i0 i1 => by
    have e := Int.mul_ediv_add_emod at_ (W / B)
    rw [hK] at e
    have e2 := Int.emod_nonneg at_ (show W / B ≠ 0 by omega)
    have e3 := Int.mul_le_mul_of_nonneg_right i1 (show 0 ≤ W / B by omega)
    have e4 := Int.mul_nonneg i0 (show 0 ≤ W / B by omega)
    rw [Int.mul_comm (W / B) K] at e
    omega
  have HKM := Lib.hid hKm
  have q1 : W.tdiv B = W / B := Int.tdiv_eq_ediv_of_nonneg (by have := h.shape.w0; omega)
  rw [hK] at HBK
  have HLO := Lib.hid hlo
  have HCNT := Lib.hid hcnt
  obtain ⟨c0, c1, c2, c3⟩ := h.cells
  obtain ⟨D, hD⟩ : ∃ D, W / B = D := ⟨_, rfl⟩
  rw [hD] at HY HKM q1 hslot hsle
  have hBne : (B == 0) = false := by rw [beq_eq_false_iff_ne]; omega
  have hBne1 : (B == -1) = false := by rw [beq_eq_false_iff_ne]; omega
  have hBz : ¬ B = 0 := by omega
  have hwD : IntKind.i64.wrap D = D := IntWalk.i64_in _ (by omega)
  have HS := Lib.hid hs
  have hlo0 : 0 ≤ lo := by rw [hlo]; omega
  have hlo1 : K - B + 1 ≤ lo := by rw [hlo]; omega
  have hlo2 : lo ≤ K := by rw [hlo]; omega
  have HPW := Lib.hid hp
  have HMW := Lib.hid hm
  have HBP := Lib.hid hbp
  have HBA := Lib.hid hba
  have HN1 := Lib.hid hn1
  have HCP := Lib.hid hcp
  have HCA := Lib.hid hca
  have hmax : max 0 (K - B + 1) = lo := hlo.symm
  clear h hJ hY h0 hK hKm hD hlo hcnt hp hm hbp hba hn1
  refine callsIn_of_wp Tryz.func115 rfl trivial ?_ rfl
  simp only [Tryz.ntmps115, List.size_toArray, List.length_cons, List.length_nil, Nat.reduceAdd, Nat.reduceSub, Array.replicate_succ, Array.replicate_zero, List.push_toArray, List.append_toArray, List.nil_append, List.cons_append]
  gi_wp2
  refine ⟨trivial, fun _ => by omega, (callsIn_wide.2 (HBK.out wS HH.out)).mono ?_⟩
  rintro e wb ⟨rfl, nq, hq⟩
  have hgb := grown_drewN wS nq
  rw [← hq] at hgb
  have HJB := Lib.hid (HJ.out [] wS wb none H0.out hgb (by simp))
  have hkb : ∀ i : Nat, wb.heap[i]? = wS.heap[i]? := fun i => by rw [hq]; rfl
  have hwb := HH.out.kept (hkb p) (hkb m)
  have HWB := Lib.hid hwb
  have HZB := Lib.hid (show wb.heap.size = wS.heap.size by rw [hq]; rfl)
  have hcp2 : wb.cell? ⟨bp, 0, none⟩ = some (.pointer (some ⟨p, 0, none⟩)) := (World.cell?_of_block (a := ⟨bp, 0, none⟩) (hkb bp)).trans HCP.out
  have hca2 : wb.cell? ⟨ba, 0, none⟩ = some (.int .i64 at_) := (World.cell?_of_block (a := ⟨ba, 0, none⟩) (hkb ba)).trans HCA.out
  have HCP2 := Lib.hid hcp2
  have HCA2 := Lib.hid hca2
  clear c0 c1 c2 c3 hcp hca
  obtain ⟨c0, c1, c2, c3⟩ := hwb.cells
  clear hq hgb hkb hwb
  gi_wp2
  gi_loopw [5, 6, 7] (fun i _ _ wr => ∃ j : Nat, j ≤ cnt ∧ i = .int .i64 (lo + j) ∧ Hid (J (bksW f lo j) wr) ∧ Hid (WinAt wr p m W B last f) ∧ Hid (wb.heap.size ≤ wr.heap.size) ∧ Hid (wr.cell? ⟨bp, 0, none⟩ = some (.pointer (some ⟨p, 0, none⟩))) ∧ Hid (wr.cell? ⟨ba, 0, none⟩ = some (.int .i64 at_))) (fun i _ _ _ => cnt - (intOf i - lo).toNat)
  case atStart => exact ⟨0, Nat.zero_le _, by simp, HJB, HWB, Lib.hid (Nat.le_refl _), HCP2, HCA2⟩
  case round =>
    rename World => wy
    obtain ⟨j, hj, rfl, HJY, HWY, HZY, HCPY, HCAY⟩ := hrel
    have hcn := HCNT.out
    by_cases hlt : j < cnt
    · have hle : lo + j ≤ K := by omega
      have hi0 : 0 ≤ lo + j := by omega
      have hlk := HWY.out.map.look2 (k := lo + j) (okW_of (by omega))
      obtain ⟨c0, c1, c2, c3⟩ := HWY.out.cells
      have c4 := HCPY.out
      have c5 := HCAY.out
      have hplt := HWY.out.lt.1
      have hbplt := World.block_lt_of_cell? wy _ c4
      have hmul := HKM.out (lo + j) hi0 hle
      have hw1 : IntKind.i64.wrap ((lo + j) * D) = (lo + j) * D := IntWalk.i64_in _ (by omega)
      have hw2 : IntKind.i64.wrap (lo + j + 1) = lo + j + 1 := IntWalk.i64_in _ (by omega)
      have HST := Lib.hid (show bksW f lo (j + 1) = bksW f lo j ++ (match f (lo + j) with | some c => [(lo + j, c)] | none => []) from rfl)
      have hlen := bksW_len f lo j
      obtain ⟨I, hI⟩ : ∃ I, lo + j = I := ⟨_, rfl⟩
      have HI := Lib.hid hI
      rw [hI] at hlk hmul hw1 hw2 hi0 hle HST ⊢
      cases hf : f I with
      | some c =>
        rw [hf] at hlk HST
        have HST : Hid (bksW f lo (j + 1) = bksW f lo j ++ [(I, c)]) := HST
        have HGOOD := Lib.hid (show GoodW D (I, c) from ⟨(HWY.out.map.1 I c hf).2.2, hmul.1, by have := hmul.2; show I * D ≤ _; omega⟩)
        clear hf hI
        obtain ⟨cp, cb, cd, ce, cr, cm⟩ := c
        have HNEW := Lib.hid (ct_cells (w := wy.alloc (ctO ⟨cp, cb, cd, ce, cr, cm⟩ 92)) (g := wy.heap.size) (c := ⟨cp, cb, cd, ce, cr, cm⟩) (t := 92) (by rw [get_allocW, if_pos rfl])).1
        have hOld : ∀ q o v, wy.cell? ⟨q, o, none⟩ = some v → (wy.alloc (ctO ⟨cp, cb, cd, ce, cr, cm⟩ 92)).cell? ⟨q, o, none⟩ = some v := fun q o v hv => (World.cell?_alloc_lt wy _ _ (World.block_lt_of_cell? wy _ hv)).trans hv
        have HOLD := Lib.hid (And.intro (hOld _ _ _ c4) (And.intro (hOld _ _ _ c0) (hOld _ _ _ c1)))
        have HJA := Lib.hid (HJ.out _ wy ((wy.alloc (ctO ⟨cp, cb, cd, ce, cr, cm⟩ 92)).drew) none HJY.out ⟨rfl, rfl, rfl, by simp [World.drew], fun i hi _ => Below.heap_alloc wy _ i hi⟩ (by simp))
        have HYY := Lib.hid (HY.out (bksW f lo j) (I, ⟨cp, cb, cd, ce, cr, cm⟩) _ HGOOD.out HJA.out (by omega))
        clear hOld
        unfold ctV at hlk
        unfold bkV at HYY
        unfold ctO at HYY HJA HNEW HOLD
        simp only [Option.getD_some, Option.isSome_some] at hlk
        dsimp only at *
        gi_wp2
        have HBLK := Lib.hid (show (wy.alloc (.cells #[.int .i64 cp, .int .i64 cb, .int .i64 cd, .int .i64 ce, .int .i64 cr, .int .i64 cm] 92)).heap[wy.heap.size]? = some (.cells #[.int .i64 cp, .int .i64 cb, .int .i64 cd, .int .i64 ce, .int .i64 cr, .int .i64 cm] 92) by rw [get_allocW, if_pos rfl])
        obtain ⟨wA, hwA⟩ : ∃ wA, wy.alloc (.cells #[.int .i64 cp, .int .i64 cb, .int .i64 cd, .int .i64 ce, .int .i64 cr, .int .i64 cm] 92) = wA := ⟨_, rfl⟩
        have HLOW := Lib.hid (show ∀ i : Nat, i < wy.heap.size → wA.heap[i]? = wy.heap[i]? from fun i hi => by rw [← hwA]; exact Below.heap_alloc wy _ i hi)
        have HZA := Lib.hid (show wA.heap.size = wy.heap.size + 1 by rw [← hwA]; simp)
        rw [hwA] at HYY HJA HNEW HOLD HBLK ⊢
        clear hwA
        obtain ⟨Z, hZ⟩ : ∃ Z, wy.heap.size = Z := ⟨_, rfl⟩
        rw [hZ] at HNEW HBLK HLOW HZA ⊢
        have HZ := Lib.hid hZ
        clear hZ hplt hbplt
        refine wpIn_region_noPanic ?_
        refine held_region (y := some 16) (S := fun wx => wx.cell? ⟨bp, 0, none⟩ = some (.pointer (some ⟨p, 0, none⟩)) ∧ wx.cell? ⟨p, 0, none⟩ = some (.int .i64 W) ∧ wx.cell? ⟨p, 1, none⟩ = some (.int .i64 B) ∧ wx.cell? ⟨Z, 0, none⟩ = some (.int .i64 cp) ∧ wx.cell? ⟨Z, 1, none⟩ = some (.int .i64 cb) ∧ wx.cell? ⟨Z, 2, none⟩ = some (.int .i64 cd) ∧ wx.cell? ⟨Z, 3, none⟩ = some (.int .i64 ce) ∧ wx.cell? ⟨Z, 4, none⟩ = some (.int .i64 cr) ∧ wx.cell? ⟨Z, 5, none⟩ = some (.int .i64 cm)) (by kernel_rfl) ?_ (fun hHeld => ?_)
        · exact ⟨HOLD.out.1, HOLD.out.2.1, HOLD.out.2.2, HNEW.out⟩
        refine held_take (i := 0) (y := some 16) (v := ?_) (fun _ => trivial) (by kernel_rfl) rfl (fun z hz => by cases hz; decide) 18 (fun z hz => by cases hz; kernel_rfl) (by kernel_rfl) (by kernel_rfl) (by kernel_rfl) (fun _ _ _ h => h) (Or.inl ⟨by rfl, ?hy⟩) (by assumption) ?_
        case hy => intro wq hSw; obtain ⟨s0, s1, s2, s3, s4, s5, s6, s7, s8⟩ := hSw; go_simp; try with_reducible rfl
        try simp only [Act.put, szA, szB, szC, szD, szE, szF]
        refine held_take (i := 1) (y := some 16) (v := ?_) (fun _ => trivial) (by kernel_rfl) rfl (fun z hz => by cases hz; decide) 18 (fun z hz => by cases hz; kernel_rfl) (by kernel_rfl) (by kernel_rfl) (by kernel_rfl) (fun _ _ _ h => h) (Or.inl ⟨by rfl, ?hy⟩) (by assumption) ?_
        case hy => intro wq hSw; obtain ⟨s0, s1, s2, s3, s4, s5, s6, s7, s8⟩ := hSw; go_simp; try with_reducible rfl
        try simp only [Act.put, szA, szB, szC, szD, szE, szF]
        refine held_take (i := 2) (y := some 16) (v := ?_) (fun _ => trivial) (by kernel_rfl) rfl (fun z hz => by cases hz; decide) 18 (fun z hz => by cases hz; kernel_rfl) (by kernel_rfl) (by kernel_rfl) (by kernel_rfl) (fun _ _ _ h => h) (Or.inl ⟨by rfl, ?hy⟩) (by assumption) ?_
        case hy => intro wq hSw; obtain ⟨s0, s1, s2, s3, s4, s5, s6, s7, s8⟩ := hSw; go_simp; try with_reducible rfl
        try simp only [Act.put, szA, szB, szC, szD, szE, szF]
        refine held_take (i := 3) (y := some 16) (v := ?_) (fun _ => trivial) (by kernel_rfl) rfl (fun z hz => by cases hz; decide) 18 (fun z hz => by cases hz; kernel_rfl) (by kernel_rfl) (by kernel_rfl) (by kernel_rfl) (fun _ _ _ h => h) (Or.inl ⟨by rfl, ?hy⟩) (by assumption) ?_
        case hy => intro wq hSw; obtain ⟨s0, s1, s2, s3, s4, s5, s6, s7, s8⟩ := hSw; go_simp; try with_reducible rfl
        try simp only [Act.put, szA, szB, szC, szD, szE, szF]
        refine held_take (i := 4) (y := some 16) (v := ?_) (fun _ => trivial) (by kernel_rfl) rfl (fun z hz => by cases hz; decide) 18 (fun z hz => by cases hz; kernel_rfl) (by kernel_rfl) (by kernel_rfl) (by kernel_rfl) (fun _ _ _ h => h) (Or.inl ⟨by rfl, ?hy⟩) (by assumption) ?_
        case hy => intro wq hSw; obtain ⟨s0, s1, s2, s3, s4, s5, s6, s7, s8⟩ := hSw; go_simp; try with_reducible rfl
        try simp only [Act.put, szA, szB, szC, szD, szE, szF]
        refine held_take (i := 5) (y := some 16) (v := ?_) (fun _ => trivial) (by kernel_rfl) rfl (fun z hz => by cases hz; decide) 18 (fun z hz => by cases hz; kernel_rfl) (by kernel_rfl) (by kernel_rfl) (by kernel_rfl) (fun _ _ _ h => h) (Or.inl ⟨by rfl, ?hy⟩) (by assumption) ?_
        case hy => intro wq hSw; obtain ⟨s0, s1, s2, s3, s4, s5, s6, s7, s8⟩ := hSw; go_simp; try with_reducible rfl
        try simp only [Act.put, szA, szB, szC, szD, szE, szF]
        refine held_take (i := 6) (y := some 16) (v := ?_) (fun _ => trivial) (by kernel_rfl) rfl (fun z hz => by cases hz; decide) 18 (fun z hz => by cases hz; kernel_rfl) (by kernel_rfl) (by kernel_rfl) (by kernel_rfl) (fun _ _ _ h => h) (Or.inl ⟨by rfl, ?hy⟩) (by assumption) ?_
        case hy => intro wq hSw; obtain ⟨s0, s1, s2, s3, s4, s5, s6, s7, s8⟩ := hSw; go_simp; try with_reducible rfl
        try simp only [Act.put, szA, szB, szC, szD, szE, szF]
        refine held_take (i := 7) (y := some 16) (v := ?_) (fun _ => trivial) (by kernel_rfl) rfl (fun z hz => by cases hz; decide) 18 (fun z hz => by cases hz; kernel_rfl) (by kernel_rfl) (by kernel_rfl) (by kernel_rfl) (fun _ _ _ h => h) (Or.inl ⟨by rfl, ?hy⟩) (by assumption) ?_
        case hy => intro wq hSw; obtain ⟨s0, s1, s2, s3, s4, s5, s6, s7, s8⟩ := hSw; go_simp; try with_reducible rfl
        try simp only [Act.put, szA, szB, szC, szD, szE, szF]
        refine held_take (i := 8) (y := some 16) (v := ?_) (fun _ => trivial) (by kernel_rfl) rfl (fun z hz => by cases hz; decide) 18 (fun z hz => by cases hz; kernel_rfl) (by kernel_rfl) (by kernel_rfl) (by kernel_rfl) (fun _ _ _ h => h) (Or.inl ⟨by rfl, ?hy⟩) (by assumption) ?_
        case hy => intro wq hSw; obtain ⟨s0, s1, s2, s3, s4, s5, s6, s7, s8⟩ := hSw; go_simp; try with_reducible rfl
        try simp only [Act.put, szA, szB, szC, szD, szE, szF]
        refine held_take (i := 9) (y := some 16) (v := ?_) (fun _ => trivial) (by kernel_rfl) rfl (fun z hz => by cases hz; decide) 18 (fun z hz => by cases hz; kernel_rfl) (by kernel_rfl) (by kernel_rfl) (by kernel_rfl) (fun _ _ _ h => h) (Or.inl ⟨by rfl, ?hy⟩) (by assumption) ?_
        case hy => intro wq hSw; obtain ⟨s0, s1, s2, s3, s4, s5, s6, s7, s8⟩ := hSw; go_simp; try with_reducible rfl
        try simp only [Act.put, szA, szB, szC, szD, szE, szF]
        refine held_take (i := 10) (y := some 16) (v := ?_) (fun _ => trivial) (by kernel_rfl) rfl (fun z hz => by cases hz; decide) 18 (fun z hz => by cases hz; kernel_rfl) (by kernel_rfl) (by kernel_rfl) (by kernel_rfl) (fun _ _ _ h => h) (Or.inl ⟨by rfl, ?hy⟩) (by assumption) ?_
        case hy => intro wq hSw; obtain ⟨s0, s1, s2, s3, s4, s5, s6, s7, s8⟩ := hSw; go_simp; try with_reducible rfl
        try simp only [Act.put, szA, szB, szC, szD, szE, szF]
        refine held_take (i := 11) (y := some 16) (v := ?_) (fun _ => trivial) (by kernel_rfl) rfl (fun z hz => by cases hz; decide) 18 (fun z hz => by cases hz; kernel_rfl) (by kernel_rfl) (by kernel_rfl) (by kernel_rfl) (fun _ _ _ h => h) (Or.inl ⟨by rfl, ?hy⟩) (by assumption) ?_
        case hy => intro wq hSw; obtain ⟨s0, s1, s2, s3, s4, s5, s6, s7, s8⟩ := hSw; go_simp; try with_reducible rfl
        try simp only [Act.put, szA, szB, szC, szD, szE, szF]
        refine held_take (i := 12) (y := some 16) (v := ?_) (fun _ => trivial) (by kernel_rfl) rfl (fun z hz => by cases hz; decide) 18 (fun z hz => by cases hz; kernel_rfl) (by kernel_rfl) (by kernel_rfl) (by kernel_rfl) (fun _ _ _ h => h) (Or.inl ⟨by rfl, ?hy⟩) (by assumption) ?_
        case hy => intro wq hSw; obtain ⟨s0, s1, s2, s3, s4, s5, s6, s7, s8⟩ := hSw; go_simp; try with_reducible rfl
        try simp only [Act.put, szA, szB, szC, szD, szE, szF]
        refine held_take (i := 13) (y := some 16) (v := ?_) (fun _ => trivial) (by kernel_rfl) rfl (fun z hz => by cases hz; decide) 18 (fun z hz => by cases hz; kernel_rfl) (by kernel_rfl) (by kernel_rfl) (by kernel_rfl) (fun _ _ _ h => h) (Or.inl ⟨by rfl, ?hy⟩) (by assumption) ?_
        case hy => intro wq hSw; obtain ⟨s0, s1, s2, s3, s4, s5, s6, s7, s8⟩ := hSw; go_simp; try with_reducible rfl
        try simp only [Act.put, szA, szB, szC, szD, szE, szF]
        refine held_take (i := 14) (y := some 16) (v := ?_) (fun _ => trivial) (by kernel_rfl) rfl (fun z hz => by cases hz; decide) 18 (fun z hz => by cases hz; kernel_rfl) (by kernel_rfl) (by kernel_rfl) (by kernel_rfl) (fun _ _ _ h => h) (Or.inl ⟨by rfl, ?hy⟩) (by assumption) ?_
        case hy => intro wq hSw; obtain ⟨s0, s1, s2, s3, s4, s5, s6, s7, s8⟩ := hSw; go_simp; try with_reducible rfl
        try simp only [Act.put, szA, szB, szC, szD, szE, szF]
        refine held_take (i := 15) (y := some 16) (v := ?_) (fun _ => trivial) (by kernel_rfl) rfl (fun z hz => by cases hz; decide) 18 (fun z hz => by cases hz; kernel_rfl) (by kernel_rfl) (by kernel_rfl) (by kernel_rfl) (fun _ _ _ h => h) (Or.inl ⟨by rfl, ?hy⟩) (by assumption) ?_
        case hy => intro wq hSw; obtain ⟨s0, s1, s2, s3, s4, s5, s6, s7, s8⟩ := hSw; go_simp; try with_reducible rfl
        try simp only [Act.put, szA, szB, szC, szD, szE, szF]
        obtain ⟨fn, tmps, assign, body, hy, hr⟩ := HYY.out
        refine held_one (y := 16) (by kernel_rfl) rfl (by kernel_rfl) (by rfl) (fun K hK => ?_)
        refine yield_op (fun _ => trivial) rfl (by omega) ?hx hr ?hk ?hv
        case hx => go_simp
        case hv =>
          rintro e w' (⟨rfl, _⟩ | ⟨rfl, _⟩)
          · exact ⟨_, rfl⟩
          · exact ⟨_, rfl⟩
        case hk =>
          rintro v w9 (⟨hv, hJ9, hk9⟩ | ⟨hv, hJx9⟩)
          · cases hv
            have HJ9 := Lib.hid hJ9
            have HK9 := Lib.hid hk9
            clear hy hr hJ9 hk9
            refine hK.out _ _ ?_
            clear hK K
            try simp only [Act.put, szA, szB, szC, szD, szE, szF]
            refine held_free (i := 17) (y := some 16) (v := ?_) (fun _ => trivial) (by kernel_rfl) rfl (fun z hz => by cases hz; decide) (by kernel_rfl) (by kernel_rfl) (by kernel_rfl) (fun _ _ _ h => h) (Or.inl ⟨by rfl, ?hy⟩) (by first | exact (fun _ => trivial) | exact (fun e => absurd ((e 16 rfl).symm.trans (show _ = true by kernel_rfl)) Bool.false_ne_true)) ?_
            case hy => intro wq hSw; go_simp; try with_reducible rfl
            try simp only [Act.put, szA, szB, szC, szD, szE, szF]
            refine held_free (i := 18) (y := some 16) (v := ?_) (fun _ => trivial) (by kernel_rfl) rfl (fun z hz => by cases hz; decide) (by kernel_rfl) (by kernel_rfl) (by kernel_rfl) (fun _ _ _ h => h) (Or.inl ⟨by rfl, ?hy⟩) (by first | exact (fun _ => trivial) | exact (fun e => absurd ((e 16 rfl).symm.trans (show _ = true by kernel_rfl)) Bool.false_ne_true)) ?_
            case hy => intro wq hSw; go_simp; try with_reducible rfl
            try simp only [Act.put, szA, szB, szC, szD, szE, szF]
            refine held_done (by kernel_rfl) ?_ _
            refine NoPanic.normal ?_
            have hzz : Z = wy.heap.size := HZ.out.symm
            have hws : WinAt w9 p m W B last f := HWY.out.kept ((HK9.out.low p HPW.out.1 HPW.out.2).trans (HLOW.out p (by have := HWY.out.lt.1; omega))) ((HK9.out.low m HMW.out.1 HMW.out.2).trans (HLOW.out m (by have := HWY.out.lt.2; omega)))
            have HWS := Lib.hid hws
            have HZ9 := Lib.hid (show wb.heap.size ≤ w9.heap.size by have h1 := HK9.out.size; have h2 := HZA.out; have h3 := HZY.out; have h4 : wA.drew.heap.size = wA.heap.size := rfl; omega)
            have HBP9 := Lib.hid (show w9.cell? ⟨bp, 0, none⟩ = some (.pointer (some ⟨p, 0, none⟩)) from HK9.out.cell HBP.out.2 HOLD.out.1)
            have HBA9 := Lib.hid (show w9.cell? ⟨ba, 0, none⟩ = some (.int .i64 at_) from HK9.out.cell HBA.out.2 ((World.cell?_of_block (w := wy) (a := ⟨ba, 0, none⟩) (HLOW.out ba (by have := World.block_lt_of_cell? wy _ HCAY.out; dsimp only at this; omega))).trans HCAY.out))
            clear hws hzz
            gi_wp2
            exact ⟨⟨j + 1, by omega, by rw [← HI.out]; simp; omega, by rw [HST.out]; exact HJ9, HWS, HZ9, HBP9, HBA9⟩, by rw [← HI.out]; simp [intOf]; omega⟩
          · cases hv
            have HJX := Lib.hid hJx9
            clear hy hr hJx9
            refine hK.out _ _ ?_
            clear hK K
            try simp only [Act.put, szA, szB, szC, szD, szE, szF]
            refine held_free (i := 17) (y := some 16) (v := ?_) (fun _ => trivial) (by kernel_rfl) rfl (fun z hz => by cases hz; decide) (by kernel_rfl) (by kernel_rfl) (by kernel_rfl) (fun _ _ _ h => h) (Or.inl ⟨by rfl, ?hy⟩) (by first | exact (fun _ => trivial) | exact (fun e => absurd ((e 16 rfl).symm.trans (show _ = true by kernel_rfl)) Bool.false_ne_true)) ?_
            case hy => intro wq hSw; go_simp; try with_reducible rfl
            try simp only [Act.put, szA, szB, szC, szD, szE, szF]
            refine held_free (i := 18) (y := some 16) (v := ?_) (fun _ => trivial) (by kernel_rfl) rfl (fun z hz => by cases hz; decide) (by kernel_rfl) (by kernel_rfl) (by kernel_rfl) (fun _ _ _ h => h) (Or.inl ⟨by rfl, ?hy⟩) (by first | exact (fun _ => trivial) | exact (fun e => absurd ((e 16 rfl).symm.trans (show _ = true by kernel_rfl)) Bool.false_ne_true)) ?_
            case hy => intro wq hSw; go_simp; try with_reducible rfl
            try simp only [Act.put, szA, szB, szC, szD, szE, szF]
            refine held_done (by kernel_rfl) ?_ _
            refine NoPanic.normal ?_
            gi_wp2
            refine bodyPost_ret (results_none rfl _ _ _) rfl ?_
            exact ⟨⟨_, rfl⟩, Or.inr ⟨_, trivial, HJX.out⟩⟩
      | none =>
        rw [hf] at hlk HST
        have HST : Hid (bksW f lo (j + 1) = bksW f lo j) := by rw [HST.out]; exact List.append_nil _
        clear hf hI
        have HOLDN := Lib.hid (fun o => HJ.out _ wy ((wy.alloc o).drew) none HJY.out ⟨rfl, rfl, rfl, by simp [World.drew], fun i hi _ => Below.heap_alloc wy _ i hi⟩ (by simp))
        unfold ctV at hlk
        simp only [Option.getD_none, Option.isSome_none, CntS.zero] at hlk
        gi_wp2
        have HLOW := Lib.hid (show ∀ i : Nat, i < wy.heap.size → (wy.alloc (.cells #[.int .i64 0, .int .i64 0, .int .i64 0, .int .i64 0, .int .i64 0, .int .i64 0] 92)).heap[i]? = wy.heap[i]? from fun i hi => Below.heap_alloc wy _ i hi)
        have HJN := Lib.hid (HOLDN.out (.cells #[.int .i64 0, .int .i64 0, .int .i64 0, .int .i64 0, .int .i64 0, .int .i64 0] 92))
        have HZA := Lib.hid (show wy.heap.size ≤ (wy.alloc (.cells #[.int .i64 0, .int .i64 0, .int .i64 0, .int .i64 0, .int .i64 0, .int .i64 0] 92)).drew.heap.size by simp [World.drew])
        refine wpIn_region_noPanic ?_
        refine held_region (y := some 16) (S := fun _ => True) (by kernel_rfl) trivial (fun _ => ?_)
        refine held_free (i := 0) (y := some 16) (v := ?_) (fun _ => trivial) (by kernel_rfl) rfl (fun z hz => by cases hz; decide) (by kernel_rfl) (by kernel_rfl) (by kernel_rfl) (fun _ _ _ h => h) (Or.inl ⟨by rfl, ?hy⟩) (by first | exact (fun _ => trivial) | exact (fun e => absurd ((e 16 rfl).symm.trans (show _ = true by kernel_rfl)) Bool.false_ne_true)) ?_
        case hy => intro wq hSw; go_simp; try with_reducible rfl
        try simp only [Act.put, szA, szB, szC, szD, szE, szF]
        refine held_free (i := 1) (y := some 16) (v := ?_) (fun _ => trivial) (by kernel_rfl) rfl (fun z hz => by cases hz; decide) (by kernel_rfl) (by kernel_rfl) (by kernel_rfl) (fun _ _ _ h => h) (Or.inl ⟨by rfl, ?hy⟩) (by first | exact (fun _ => trivial) | exact (fun e => absurd ((e 16 rfl).symm.trans (show _ = true by kernel_rfl)) Bool.false_ne_true)) ?_
        case hy => intro wq hSw; go_simp; try with_reducible rfl
        try simp only [Act.put, szA, szB, szC, szD, szE, szF]
        refine held_free (i := 2) (y := some 16) (v := undef) (fun _ => trivial) (by kernel_rfl) rfl (fun z hz => by cases hz; decide) (by kernel_rfl) (by kernel_rfl) (by kernel_rfl) (fun _ _ _ h => h) (Or.inr ⟨by rfl, rfl⟩) (fun _ => trivial) ?_
        try simp only [Act.put, szA, szB, szC, szD, szE, szF]
        refine held_free (i := 3) (y := some 16) (v := undef) (fun _ => trivial) (by kernel_rfl) rfl (fun z hz => by cases hz; decide) (by kernel_rfl) (by kernel_rfl) (by kernel_rfl) (fun _ _ _ h => h) (Or.inr ⟨by rfl, rfl⟩) (fun _ => trivial) ?_
        try simp only [Act.put, szA, szB, szC, szD, szE, szF]
        refine held_free (i := 4) (y := some 16) (v := undef) (fun _ => trivial) (by kernel_rfl) rfl (fun z hz => by cases hz; decide) (by kernel_rfl) (by kernel_rfl) (by kernel_rfl) (fun _ _ _ h => h) (Or.inr ⟨by rfl, rfl⟩) (fun _ => trivial) ?_
        try simp only [Act.put, szA, szB, szC, szD, szE, szF]
        refine held_free (i := 5) (y := some 16) (v := undef) (fun _ => trivial) (by kernel_rfl) rfl (fun z hz => by cases hz; decide) (by kernel_rfl) (by kernel_rfl) (by kernel_rfl) (fun _ _ _ h => h) (Or.inr ⟨by rfl, rfl⟩) (fun _ => trivial) ?_
        try simp only [Act.put, szA, szB, szC, szD, szE, szF]
        refine held_free (i := 6) (y := some 16) (v := undef) (fun _ => trivial) (by kernel_rfl) rfl (fun z hz => by cases hz; decide) (by kernel_rfl) (by kernel_rfl) (by kernel_rfl) (fun _ _ _ h => h) (Or.inr ⟨by rfl, rfl⟩) (fun _ => trivial) ?_
        try simp only [Act.put, szA, szB, szC, szD, szE, szF]
        refine held_free (i := 7) (y := some 16) (v := undef) (fun _ => trivial) (by kernel_rfl) rfl (fun z hz => by cases hz; decide) (by kernel_rfl) (by kernel_rfl) (by kernel_rfl) (fun _ _ _ h => h) (Or.inr ⟨by rfl, rfl⟩) (fun _ => trivial) ?_
        try simp only [Act.put, szA, szB, szC, szD, szE, szF]
        refine held_free (i := 8) (y := some 16) (v := undef) (fun _ => trivial) (by kernel_rfl) rfl (fun z hz => by cases hz; decide) (by kernel_rfl) (by kernel_rfl) (by kernel_rfl) (fun _ _ _ h => h) (Or.inr ⟨by rfl, rfl⟩) (fun _ => trivial) ?_
        try simp only [Act.put, szA, szB, szC, szD, szE, szF]
        refine held_free (i := 9) (y := some 16) (v := undef) (fun _ => trivial) (by kernel_rfl) rfl (fun z hz => by cases hz; decide) (by kernel_rfl) (by kernel_rfl) (by kernel_rfl) (fun _ _ _ h => h) (Or.inr ⟨by rfl, rfl⟩) (fun _ => trivial) ?_
        try simp only [Act.put, szA, szB, szC, szD, szE, szF]
        refine held_free (i := 10) (y := some 16) (v := undef) (fun _ => trivial) (by kernel_rfl) rfl (fun z hz => by cases hz; decide) (by kernel_rfl) (by kernel_rfl) (by kernel_rfl) (fun _ _ _ h => h) (Or.inr ⟨by rfl, rfl⟩) (fun _ => trivial) ?_
        try simp only [Act.put, szA, szB, szC, szD, szE, szF]
        refine held_free (i := 11) (y := some 16) (v := undef) (fun _ => trivial) (by kernel_rfl) rfl (fun z hz => by cases hz; decide) (by kernel_rfl) (by kernel_rfl) (by kernel_rfl) (fun _ _ _ h => h) (Or.inr ⟨by rfl, rfl⟩) (fun _ => trivial) ?_
        try simp only [Act.put, szA, szB, szC, szD, szE, szF]
        refine held_free (i := 12) (y := some 16) (v := undef) (fun _ => trivial) (by kernel_rfl) rfl (fun z hz => by cases hz; decide) (by kernel_rfl) (by kernel_rfl) (by kernel_rfl) (fun _ _ _ h => h) (Or.inr ⟨by rfl, rfl⟩) (fun _ => trivial) ?_
        try simp only [Act.put, szA, szB, szC, szD, szE, szF]
        refine held_free (i := 13) (y := some 16) (v := undef) (fun _ => trivial) (by kernel_rfl) rfl (fun z hz => by cases hz; decide) (by kernel_rfl) (by kernel_rfl) (by kernel_rfl) (fun _ _ _ h => h) (Or.inr ⟨by rfl, rfl⟩) (fun _ => trivial) ?_
        try simp only [Act.put, szA, szB, szC, szD, szE, szF]
        refine held_free (i := 14) (y := some 16) (v := undef) (fun _ => trivial) (by kernel_rfl) rfl (fun z hz => by cases hz; decide) (by kernel_rfl) (by kernel_rfl) (by kernel_rfl) (fun _ _ _ h => h) (Or.inr ⟨by rfl, rfl⟩) (fun _ => trivial) ?_
        try simp only [Act.put, szA, szB, szC, szD, szE, szF]
        refine held_free (i := 15) (y := some 16) (v := undef) (fun _ => trivial) (by kernel_rfl) rfl (fun z hz => by cases hz; decide) (by kernel_rfl) (by kernel_rfl) (by kernel_rfl) (fun _ _ _ h => h) (Or.inr ⟨by rfl, rfl⟩) (fun _ => trivial) ?_
        try simp only [Act.put, szA, szB, szC, szD, szE, szF]
        refine held_skip (y := 16) (fun _ => trivial) (by kernel_rfl) rfl (by kernel_rfl) (by rfl) ?_
        try simp only [Act.put, szA, szB, szC, szD, szE, szF]
        refine held_free (i := 17) (y := some 16) (v := undef) (fun _ => trivial) (by kernel_rfl) rfl (fun z hz => by cases hz; decide) (by kernel_rfl) (by kernel_rfl) (by kernel_rfl) (fun _ _ _ h => h) (Or.inr ⟨by rfl, rfl⟩) (fun _ => trivial) ?_
        try simp only [Act.put, szA, szB, szC, szD, szE, szF]
        refine held_free (i := 18) (y := some 16) (v := ?_) (fun _ => trivial) (by kernel_rfl) rfl (fun z hz => by cases hz; decide) (by kernel_rfl) (by kernel_rfl) (by kernel_rfl) (fun _ _ _ h => h) (Or.inl ⟨by rfl, ?hy⟩) (by first | exact (fun _ => trivial) | exact (fun e => absurd ((e 16 rfl).symm.trans (show _ = true by kernel_rfl)) Bool.false_ne_true)) ?_
        case hy => intro wq hSw; go_simp; try with_reducible rfl
        try simp only [Act.put, szA, szB, szC, szD, szE, szF]
        refine held_done (by kernel_rfl) ?_ _
        refine NoPanic.normal ?_
        have hws : WinAt (wy.alloc (.cells #[.int .i64 0, .int .i64 0, .int .i64 0, .int .i64 0, .int .i64 0, .int .i64 0] 92)).drew p m W B last f := HWY.out.kept (HLOW.out p HWY.out.lt.1) (HLOW.out m HWY.out.lt.2)
        have HWS := Lib.hid hws
        have HBP9 := Lib.hid (show (wy.alloc (.cells #[.int .i64 0, .int .i64 0, .int .i64 0, .int .i64 0, .int .i64 0, .int .i64 0] 92)).drew.cell? ⟨bp, 0, none⟩ = some (.pointer (some ⟨p, 0, none⟩)) from (World.cell?_of_block (w := wy) (a := ⟨bp, 0, none⟩) (HLOW.out bp (World.block_lt_of_cell? wy _ HCPY.out))).trans HCPY.out)
        have HBA9 := Lib.hid (show (wy.alloc (.cells #[.int .i64 0, .int .i64 0, .int .i64 0, .int .i64 0, .int .i64 0, .int .i64 0] 92)).drew.cell? ⟨ba, 0, none⟩ = some (.int .i64 at_) from (World.cell?_of_block (w := wy) (a := ⟨ba, 0, none⟩) (HLOW.out ba (World.block_lt_of_cell? wy _ HCAY.out))).trans HCAY.out)
        clear hws
        gi_wp2
        exact ⟨⟨j + 1, by omega, by rw [← HI.out]; simp; omega, by rw [HST.out]; exact HJN, HWS, Lib.hid (Nat.le_trans HZY.out HZA.out), HBP9, HBA9⟩, by rw [← HI.out]; simp [intOf]; omega⟩
    · have hle : ¬ lo + j ≤ K := by omega
      have e1 : j = cnt := by omega
      rw [e1] at HJY
      clear e1
      gi_wp2
      go_end0
      exact ⟨⟨_, rfl⟩, Or.inl HJY.out⟩
end Go.Proofs.YtemlafbkkaloiaaGreat
namespace Go.Proofs.YtemlafbkkaloiaaGreat
open Go.RowKit Go.Shelf
attribute [local go_sem] Oper.semAt_some
theorem wat_any (p : Nat) (at_ : Int) (w : World) : Calls Tryz.prog 98 #[.pointer (some ⟨p, 0, none⟩), .int .i64 at_] w fun e w' =>
    e = .returned (.func (.func 115) #[] #[.pointer (some ⟨w.heap.size, 0, none⟩), .pointer (some ⟨w.heap.size + 1, 0, none⟩)]) ∧ w' = (w.alloc (.cells #[.pointer (some ⟨p, 0, none⟩)] 79)).alloc (.cells #[.int .i64 at_] 3) := by
  go_enter Tryz.func98, Tryz.ntmps98
  go_wp2_with (fail)
  go_ret
  exact ⟨rfl, rfl⟩
abbrev BkT (D : Int) := { x : Int × CntS // GoodW D x }
theorem wat_stops {p m : Nat} {W B last at_ : Int} {f : Int → Option CntS} (a0 : 0 ≤ at_) (a1 : at_ ≤ 1152921504606846976) (n : Nat) (hn : 3 ≤ n) (n1 s bp ba : Nat) (hp : p < n1 ∧ p ≠ s) (hm : m < n1 ∧ m ≠ s) (hbp : bp < n1 ∧ bp ≠ s) (hba : ba < n1 ∧ ba ≠ s) (hs : s < n1) (K : Int) (hK : at_ / (W / B) = K) (cnt : Nat) (lo : Int)
    (hlo : lo = max 0 (K - B + 1)) (hcnt : (cnt : Int) = K - lo + 1) (w : World) (h : WinAt w p m W B last f) (hn1 : n1 ≤ w.heap.size) (hcp : w.cell? ⟨bp, 0, none⟩ = some (.pointer (some ⟨p, 0, none⟩))) (hca : w.cell? ⟨ba, 0, none⟩ = some (.int .i64 at_)) :
    SeqStopsK Fence.wide n Tryz.prog 115 #[.pointer (some ⟨bp, 0, none⟩), .pointer (some ⟨ba, 0, none⟩)] (fun x : BkT (W / B) => #[bkV (W / B) x.1]) (KeepW n1 s) (fun ys => ys.map (·.1) = bksW f lo cnt) (fun _ => True) 61 w := fun l J Jx W' hW hJ _ hY h0 =>
  (wat1_in a0 a1 n hn n1 s bp ba hp hm hbp hba hs K hK cnt lo hlo hcnt l (fun pre V => ∃ pre' : List (BkT (W / B)), pre'.map (·.1) = pre ∧ J pre' V) (fun pre V => ∃ pre' : List (BkT (W / B)), pre'.map (·.1) = pre ∧ Jx pre' V) W' (h.below hW) (Nat.le_trans hn1 hW.size) ((hW.cell (p := ⟨bp, 0, none⟩) (World.block_lt_of_cell? w _ hcp)).trans hcp) ((hW.cell (p := ⟨ba, 0, none⟩) (World.block_lt_of_cell? w _ hca)).trans hca)
    (fun s X Y row hs hg hr => by obtain ⟨pre', e, hj⟩ := hs; exact ⟨pre', e, hJ pre' X Y row hj hg hr⟩)
    (fun pre x W1 hgood hj hlen => by
      obtain ⟨pre', e, hj⟩ := hj
      refine (hY pre' ⟨x, hgood⟩ W1 hj (by rw [← e, List.length_map] at hlen; exact hlen)).mono (fun e2 w2 h2 => ?_)
      rcases h2 with ⟨q1, q2, q3⟩ | ⟨q1, q2⟩
      · exact Or.inl ⟨q1, ⟨_, by simp [e], q2⟩, q3⟩
      · exact Or.inr ⟨q1, ⟨_, by simp [e], q2⟩⟩)
    ⟨[], rfl, h0⟩).mono (fun e w2 h2 => by
      obtain ⟨hv, h2⟩ := h2
      refine ⟨hv, ?_⟩
      rcases h2 with ⟨ys, e1, pre', e2, hj⟩ | ⟨pre, _, pre', e2, hj⟩
      · exact Or.inl ⟨pre', e2.trans e1, hj⟩
      · exact Or.inr ⟨pre', trivial, hj⟩)
def sumBk (l : List (Int × CntS)) : CntS := l.foldl (fun s x => twoC s x.2) .zero
theorem sumBk_snoc (l : List (Int × CntS)) (x : Int × CntS) : sumBk (l ++ [x]) = twoC (sumBk l) x.2 := by simp [sumBk, List.foldl_append]
theorem sumBk_right {D : Int} (l : List (BkT D)) : RightC (sumBk (l.map (·.1))) := by
  have : ∀ (l : List (BkT D)) (s : CntS), RightC s → RightC ((l.map (·.1)).foldl (fun s x => twoC s x.2) s) := by
    intro l
    induction l with
    | nil => intro s h; exact h
    | cons x l ih => intro s h; exact ih _ (twoC_right h x.2.1)
  exact this l .zero rightC_zero
theorem keepW_alloc {n1 s : Nat} {W : World} (h : n1 ≤ W.heap.size) (o : Obj) : KeepW n1 s W (W.alloc o) :=
  ⟨by simp, fun i hi _ => Below.heap_alloc W o i (by omega), fun i x hx _ _ => (Below.heap_alloc W o i (Array.getElem?_eq_some_iff.1 hx).1).trans hx⟩
theorem keep_six {n1 s : Nat} {W w1 : World} {c : CntS} {t : TypeId} (hb : Below W.heap.size W w1) (hn : n1 ≤ W.heap.size) (hs : W.heap[s]? = some (ctO c t)) (p b d e r m : Int) : KeepW n1 s W (sixC w1 s p b d e r m) ∧ ∀ B, KeepsFrom B W (sixC w1 s p b d e r m) := by
  have hsz : (sixC w1 s p b d e r m).heap.size = w1.heap.size := sixC_size ..
  refine ⟨⟨by rw [hsz]; exact hb.size, fun i hi hne => (sixC_other hne ..).trans (hb.block i (by omega)), fun i o hi _ hne => ((sixC_other hne ..).trans (hb.block i (Array.getElem?_eq_some_iff.1 hi).1)).trans hi⟩, fun B => ⟨by rw [hsz]; exact hb.size, fun k o _ hk ho => ?_⟩⟩
  have hne : k ≠ s := fun e => by
    subst e
    rw [hs] at hk; cases hk; cases ho
  exact ((sixC_other hne ..).trans (hb.block k (Array.getElem?_eq_some_iff.1 hk).1)).trans hk
theorem results_cell_tmp {P : Program} {fn : Func} {p q : Tmp} {ty : TypeId} (h : fn.results = #[.cell p ty, .tmp q]) (tmps : Array Value) (w : World) (g : Nat) (t : TypeId) (cs : Array Value) (fr : Nat × Nat) (d : TypeDesc) (v : Value)
    (hp : tmps.getD p undef = .pointer (some ⟨g, 0, none⟩)) (hq : tmps.getD q undef = v) (hg : w.heap[g]? = some (.cells cs t fr))
    (hu : P.underlying ty = some d) (hd : (match d with | .struct _ | .array _ _ => true | _ => false) = true) (hi : (P.info? ty).map (·.size) = some cs.size) :
    (results fn tmps).run P w = .ok (.tuple #[.agg cs, v]) w := by
  have hp' : tmps[p]?.getD undef = .pointer (some ⟨g, 0, none⟩) := by simpa using hp
  have hq' : tmps[q]?.getD undef = v := by simpa using hq
  simp [results, h, hp', hq', asAddr, run_loadVar_row w g t ty cs fr d hg hu hd hi]
def bkO (D : Int) (x : Int × CntS) : Obj := .cells #[.int .i64 (x.1 * D), .int .i64 x.2.p, .int .i64 x.2.b, .int .i64 x.2.d, .int .i64 x.2.e, .int .i64 x.2.r, .int .i64 x.2.m] 182
theorem bk_cells {w : World} {g : Nat} {D : Int} {x : Int × CntS} (h : w.heap[g]? = some (bkO D x)) : w.cell? ⟨g, 0, none⟩ = some (.int .i64 (x.1 * D)) ∧ w.cell? ⟨g, 1, none⟩ = some (.int .i64 x.2.p) ∧ w.cell? ⟨g, 2, none⟩ = some (.int .i64 x.2.b) ∧ w.cell? ⟨g, 3, none⟩ = some (.int .i64 x.2.d) ∧
    w.cell? ⟨g, 4, none⟩ = some (.int .i64 x.2.e) ∧ w.cell? ⟨g, 5, none⟩ = some (.int .i64 x.2.r) ∧ w.cell? ⟨g, 6, none⟩ = some (.int .i64 x.2.m) := by
  simp only [World.cell?, h, bkO]
  exact ⟨rfl, rfl, rfl, rfl, rfl, rfl, rfl⟩
set_option maxHeartbeats 6400000 in
set_option maxRecDepth 100000 in
theorem wsum_in {w : World} {p m : Nat} {W B last at_ : Int} {f : Int → Option CntS} (h : WinAt w p m W B last f) (hE : lookW last at_ = 0) (K : Int) (hK : at_ / (W / B) = K) (cnt : Nat) (lo : Int) (hlo : lo = max 0 (K - B + 1)) (hcnt : (cnt : Int) = K - lo + 1) :
    CallsIn Fence.wide 9 Tryz.prog 68 #[.pointer (some ⟨p, 0, none⟩), .int .i64 at_] w fun e w' => e = .returned (.tuple #[ctV (sumBk (bksW f lo cnt)), .int .i64 0]) ∧ Below w.heap.size w w' := by
  obtain ⟨a0, a1, a2⟩ := lookW_ok hE
  have HWR := Lib.hid (fun (wx : World) (hb : Below w.heap.size w wx) => wwrong_any p last at_ wx (h.below hb).cells.2.2.1)
  rw [hE] at HWR
  have HH := Lib.hid h
  obtain ⟨hpl, hml⟩ := h.lt
  have HB0 := Lib.hid (show Below w.heap.size w (w.alloc (ctO .zero 92)) from (Below.refl _ _).alloc (Nat.le_refl _) _)
  have HB1 := Lib.hid (show Below w.heap.size w ((w.alloc (ctO .zero 92)).alloc (ctO .zero 92)) from HB0.out.alloc (by simp) _)
  have HB3 := Lib.hid (show Below w.heap.size w ((((w.alloc (ctO .zero 92)).alloc (ctO .zero 92)).alloc (.cells #[.pointer (some ⟨p, 0, none⟩)] 79)).alloc (.cells #[.int .i64 at_] 3)) from (HB1.out.alloc (by simp; omega) _).alloc (by simp; omega) _)
  have HSZ := Lib.hid (show ((((w.alloc (ctO .zero 92)).alloc (ctO .zero 92)).alloc (.cells #[.pointer (some ⟨p, 0, none⟩)] 79)).alloc (.cells #[.int .i64 at_] 3)).heap.size = w.heap.size + 4 by simp)
  have G0 := Lib.hid (show ((((w.alloc (ctO .zero 92)).alloc (ctO .zero 92)).alloc (.cells #[.pointer (some ⟨p, 0, none⟩)] 79)).alloc (.cells #[.int .i64 at_] 3)).heap[w.heap.size]? = some (ctO .zero 92) by
    rw [get_allocW, if_neg (by simp; omega), get_allocW, if_neg (by simp; omega), get_allocW, if_neg (by simp), get_allocW, if_pos rfl])
  have G1 := Lib.hid (show ((((w.alloc (ctO .zero 92)).alloc (ctO .zero 92)).alloc (.cells #[.pointer (some ⟨p, 0, none⟩)] 79)).alloc (.cells #[.int .i64 at_] 3)).heap[w.heap.size + 1]? = some (ctO .zero 92) by
    rw [get_allocW, if_neg (by simp), get_allocW, if_neg (by simp), get_allocW, if_pos (by simp)])
  have C2 := Lib.hid (show ((((w.alloc (ctO .zero 92)).alloc (ctO .zero 92)).alloc (.cells #[.pointer (some ⟨p, 0, none⟩)] 79)).alloc (.cells #[.int .i64 at_] 3)).cell? ⟨w.heap.size + 1 + 1, 0, none⟩ = some (.pointer (some ⟨p, 0, none⟩)) by
    simp only [World.cell?]
    rw [get_allocW, if_neg (by simp), get_allocW, if_pos (by simp)]
    rfl)
  have C3 := Lib.hid (show ((((w.alloc (ctO .zero 92)).alloc (ctO .zero 92)).alloc (.cells #[.pointer (some ⟨p, 0, none⟩)] 79)).alloc (.cells #[.int .i64 at_] 3)).cell? ⟨w.heap.size + 1 + 1 + 1, 0, none⟩ = some (.int .i64 at_) by
    simp only [World.cell?]
    rw [get_allocW, if_pos (by simp)]
    rfl)
  clear h hE
  refine callsIn_of_wp_marks Tryz.func68 rfl trivial ?_ rfl
  simp only [Tryz.ntmps68, List.size_toArray, List.length_cons, List.length_nil, Nat.reduceAdd, Nat.reduceSub, Array.replicate_succ, Array.replicate_zero, List.push_toArray, List.append_toArray, List.nil_append, List.cons_append]
  gi_wp2
  refine ⟨trivial, (callsIn_wide.2 (HWR.out _ HB0.out)).mono ?_⟩
  rintro e wq ⟨rfl, hq⟩
  subst hq
  gi_wp2
  refine ⟨trivial, (callsIn_wide.2 (wat_any p at_ _)).mono ?_⟩
  rintro e wq ⟨rfl, hq⟩
  subst hq
  gi_wp2
  unfold ctO CntS.zero
  dsimp only
  unfold ctO CntS.zero at HB3 HSZ G0 G1 C2 C3
  dsimp only at HB3 HSZ G0 G1 C2 C3
  generalize hW0 : (((w.alloc (.cells #[.int .i64 0, .int .i64 0, .int .i64 0, .int .i64 0, .int .i64 0, .int .i64 0] 92)).alloc (.cells #[.int .i64 0, .int .i64 0, .int .i64 0, .int .i64 0, .int .i64 0, .int .i64 0] 92)).alloc (.cells #[.pointer (some ⟨p, 0, none⟩)] 79)).alloc (.cells #[.int .i64 at_] 3) = W0 at *
  clear hW0
  have hsz := HSZ.out
  refine wpIn_rangeFunc_ownH (F := Fence.wide) (n := 9) rfl (by decide) (gf := 115) (lb := #[.pointer (some ⟨w.heap.size + 1 + 1, 0, none⟩), .pointer (some ⟨w.heap.size + 1 + 1 + 1, 0, none⟩)]) rfl trivial (enters_of Tryz.func115 (by kernel_rfl) rfl)
    (wat_stops a0 a1 8 (by decide) (w.heap.size + 4) (w.heap.size + 1) (w.heap.size + 1 + 1) (w.heap.size + 1 + 1 + 1) ⟨by omega, by omega⟩ ⟨by omega, by omega⟩ ⟨by omega, by omega⟩ ⟨by omega, by omega⟩ (by omega) K hK cnt lo hlo hcnt W0 (HH.out.below HB3.out) (by omega) C2.out C3.out) keepW_t (keepW_b (by omega)) (Below.refl _ _) (fun _ => rfl)
    (fun pre V => (V.heap[w.heap.size + 1]? = some (ctO (sumBk (pre.map (·.1))) 92) ∧ V.heap[w.heap.size]? = some (ctO .zero 92) ∧ w.heap.size + 4 ≤ V.heap.size) ∧ Below w.heap.size w V)
    (fun _ _ _ => False)
    (OwnFrom.and (fun s X Y row hs hg hr => ⟨(hg.block _ (Array.getElem?_eq_some_iff.1 hs.1).1 (fun e => by have := (hr _ e.symm).1; omega)).trans hs.1, (hg.block _ (Array.getElem?_eq_some_iff.1 hs.2.1).1 (fun e => by have := (hr _ e.symm).1; omega)).trans hs.2.1, Nat.le_trans hs.2.2 hg.size⟩) (ownFrom_below (Nat.le_refl _) (by omega)))
    (fun _ _ _ _ _ hs _ _ => hs)
    ⟨⟨G1.out, G0.out, by omega⟩, HB3.out⟩
    (fun x a' V => ∃ Bx, w.heap.size + 4 ≤ Bx ∧ V.heap[Bx]? = some (bkO (W / B) x.1) ∧ a' = { tmps := #[.pointer (some ⟨p, 0, none⟩), .int .i64 at_, undef, undef, .pointer (some ⟨w.heap.size, 0, none⟩), .int .i64 0, .int .i64 0, .pointer (some ⟨w.heap.size + 1, 0, none⟩), .pointer (some ⟨Bx, 0, none⟩), .pointer (some ⟨p, 0, none⟩), .int .i64 at_, .int .i64 0, .int .i64 0, .bool false, undef, undef, .pointer (some ⟨p, 0, none⟩), .int .i64 at_, .func (.func 115) #[] #[.pointer (some ⟨w.heap.size + 1 + 1, 0, none⟩), .pointer (some ⟨w.heap.size + 1 + 1 + 1, 0, none⟩)], bkV (W / B) x.1, undef, undef, undef, undef, undef], defers := [] })
    (fun x a' _ X Y row hs hg hr => by
      obtain ⟨Bx, h1, h2, h3⟩ := hs
      refine ⟨Bx, h1, (hg.block Bx (Array.getElem?_eq_some_iff.1 h2).1 (fun e => ?_)).trans h2, h3⟩
      obtain ⟨_, o, ho, hc⟩ := hr Bx e.symm
      rw [h2] at ho; cases ho; cases hc)
    ?assign ?body ?done ?stop
  case assign =>
    rintro l pre ⟨⟨xi, xp, xb, xd, xe, xr, xm⟩, hx⟩ V KK ⟨⟨g1, g0, gz⟩, hB⟩ hKK
    unfold bkV
    dsimp only
    gi_wp2
    exact hKK _ _ ((KeepsOthers.alloc _ _).from _) (keepW_alloc gz _) ⟨⟨(Below.heap_alloc V _ _ (by omega)).trans g1, (Below.heap_alloc V _ _ (by omega)).trans g0, by simp; omega⟩, hB.alloc hB.size _⟩ ⟨V.heap.size, gz, (get_allocW V _ _).trans (if_pos rfl), rfl⟩
  case body =>
    rintro l pre ⟨⟨xi, xp, xb, xd, xe, xr, xm⟩, hx⟩ a' V hl ⟨r, hr⟩ ⟨⟨g1, g0, gz⟩, hB⟩ ⟨Bx, hBx, bX, rfl⟩ hlt
    have hsr := sumBk_right pre
    have hxr := hx.1
    have HSN := Lib.hid (show sumBk ((pre ++ [(⟨(xi, ⟨xp, xb, xd, xe, xr, xm⟩), hx⟩ : BkT (W / B))]).map (fun x => x.1)) = twoC (sumBk (pre.map (·.1))) ⟨xp, xb, xd, xe, xr, xm⟩ by rw [List.map_append]; exact sumBk_snoc _ _)
    obtain ⟨SS, hSS⟩ : ∃ SS, sumBk (pre.map (·.1)) = SS := ⟨_, rfl⟩
    rw [hSS] at g1 hsr HSN
    clear hSS
    obtain ⟨x0, x1, x2, x3, x4, x5, x6⟩ := bk_cells bX
    have HTW := Lib.hid (fun wx => wtwo_any SS ⟨xp, xb, xd, xe, xr, xm⟩ hsr hxr wx)
    have hzB : Bx < V.heap.size := (Array.getElem?_eq_some_iff.1 bX).1
    obtain ⟨T, hT⟩ : ∃ T, twoC SS ⟨xp, xb, xd, xe, xr, xm⟩ = T := ⟨_, rfl⟩
    rw [hT] at HTW HSN
    clear hT hsr hxr
    have HG1 := Lib.hid g1
    obtain ⟨sp, sb, sd, se, sr, sm⟩ := SS
    obtain ⟨tp, tb, td, te, tr, tm⟩ := T
    obtain ⟨⟨d0, d1, d2, d3, d4, d5⟩, df⟩ := ct_cells g1
    dsimp only at *
    unfold ctV at HTW
    clear g1
    gi_wp2
    refine ⟨trivial, ((callsIn_wide.2 (HTW.out V)).inRound l).mono ?_⟩
    rintro e w9 ⟨rfl, h9⟩
    have HK9 := Lib.hid (keep_six h9 gz HG1.out tp tb td te tr tm)
    have h1' := (h9.block (w.heap.size + 1) (by omega)).trans HG1.out
    have HG9 := Lib.hid h1'
    obtain ⟨⟨e0, e1, e2, e3, e4, e5⟩, ef⟩ := ct_cells h1'
    have HG0 := Lib.hid ((sixC_other (w := w9) (g := w.heap.size + 1) (i := w.heap.size) (by omega) tp tb td te tr tm).trans ((h9.block w.heap.size (by omega)).trans g0))
    have HZ9 := Lib.hid (show w.heap.size + 4 ≤ (sixC w9 (w.heap.size + 1) tp tb td te tr tm).heap.size by rw [sixC_size]; have := h9.size; omega)
    have HB9 := Lib.hid (sixC_below (g := w.heap.size + 1) (hB.trans (h9.mono hB.size)) (by omega) tp tb td te tr tm)
    clear h9 h1' d0 d1 d2 d3 d4 d5 df
    gi_wp2
    exact ⟨HK9.out.2 _, HK9.out.1, ⟨by rw [HSN.out]; exact sixC_same HG9.out tp tb td te tr tm, HG0.out, HZ9.out⟩, HB9.out⟩
  case done =>
    rintro D ys V hD hS ⟨⟨g1, g0, gz⟩, hB⟩ hK
    rw [hS] at g1
    obtain ⟨SS, hSS⟩ : ∃ SS, sumBk (bksW f lo cnt) = SS := ⟨_, rfl⟩
    rw [hSS] at g1
    have HSS := Lib.hid hSS
    clear hSS
    obtain ⟨sp, sb, sd, se, sr, sm⟩ := SS
    obtain ⟨⟨d0, d1, d2, d3, d4, d5⟩, df⟩ := ct_cells g1
    obtain ⟨⟨e0, e1, e2, e3, e4, e5⟩, ef⟩ := ct_cells g0
    dsimp only at *
    have hK' : (sixC V w.heap.size sp sb sd se sr sm).heap[D]? = some (.deferred (some [])) := (sixC_other (by omega) sp sb sd se sr sm).trans hK
    have hres := sixC_same g0 sp sb sd se sr sm
    have HK' := Lib.hid hK'
    have HRES := Lib.hid hres
    clear hK hres hK'
    gi_wp2
    refine ⟨by simp, .inl ⟨_, _, rfl, run_takeDeferred HK'.out, ?_⟩⟩
    have hgr := grownBy_putObj' (sixC V w.heap.size sp sb sd se sr sm) D (.deferred none)
    have hlt : w.heap.size < (sixC V w.heap.size sp sb sd se sr sm).heap.size := (Array.getElem?_eq_some_iff.1 HRES.out).1
    refine ⟨_, results_cell_tmp (P := Tryz.prog) rfl _ _ w.heap.size 92 #[.int .i64 sp, .int .i64 sb, .int .i64 sd, .int .i64 se, .int .i64 sr, .int .i64 sm] (0, 0) _ (.int .i64 0) (by rfl) (by rfl) ((hgr.block w.heap.size hlt (by simp; omega)).trans HRES.out) Tryz.underlying92 rfl (by kernel_rfl), ?_, ?_⟩
    · rw [HSS.out]; rfl
    · exact (sixC_below hB (Nat.le_refl _) sp sb sd se sr sm).grown hgr (by rw [sixC_size]; exact hB.size) (fun k e => by cases e; omega)
  case stop =>
    rintro D c pre V _ _ h _
    exact h.elim
theorem wSum_any {w : World} {p m : Nat} {W B last at_ : Int} {f : Int → Option CntS} (h : WinAt w p m W B last f) (hE : lookW last at_ = 0) (K : Int) (hK : at_ / (W / B) = K) (cnt : Nat) (lo : Int) (hlo : lo = max 0 (K - B + 1)) (hcnt : (cnt : Int) = K - lo + 1) :
    Calls Tryz.prog 68 #[.pointer (some ⟨p, 0, none⟩), .int .i64 at_] w fun e w' => e = .returned (.tuple #[ctV (sumBk (bksW f lo cnt)), .int .i64 0]) ∧ Below w.heap.size w w' :=
  (callsIn_wide (n := 9)).1 (wsum_in h hE K hK cnt lo hlo hcnt)
end Go.Proofs.YtemlafbkkaloiaaGreat
namespace Go.Proofs.YtemlafbkkaloiaaGreat
open Go.RowKit Go.Shelf
attribute [local go_sem] Oper.semAt_some
structure SameW (V w : World) : Prop where
  heap : w.heap = V.heap
  os : w.os = V.os
  tape : w.tape = V.tape
  output : w.output = V.output
end Go.Proofs.YtemlafbkkaloiaaGreat
namespace Go.Proofs.YtemlafbkkaloiaaGreat
open Go.RowKit
theorem runW_snoc (f : Int → Option CntS) : ∀ (n : Nat) (lo : Int) (s : CntS), runW f (n + 1) lo s = (match f (lo + n) with | some c => twoC (runW f n lo s) c | none => runW f n lo s)
  | 0, lo, s => by
    show runW f 0 (lo + 1) _ = _
    simp only [runW]
    have e : lo + ((0 : Nat) : Int) = lo := by omega
    rw [e]
    cases f lo <;> rfl
  | n + 1, lo, s => by
    rw [runW, runW_snoc f n (lo + 1), runW]
    have e : lo + 1 + (n : Int) = lo + ((n + 1 : Nat) : Int) := by omega
    rw [e]
theorem sumBk_run (f : Int → Option CntS) (lo : Int) : ∀ n, sumBk (bksW f lo n) = runW f n lo .zero
  | 0 => rfl
  | n + 1 => by
    rw [runW_snoc, bksW]
    cases h : f (lo + n) with
    | none => simp only [List.append_nil]; exact sumBk_run f lo n
    | some c => simp only; rw [sumBk_snoc, sumBk_run f lo n]
theorem InvW.sum2 {b B last : Int} {notes : List NoteW} {f : Int → Option CntS} (h : InvW b B last notes f) {at_ : Int} (hat : last ≤ at_) {cnt : Nat} {lo : Int} (hlo : lo = max 0 (at_ / b - B + 1)) (hcnt : (cnt : Int) = at_ / b - lo + 1) : sumBk (bksW f lo cnt) = winC b B at_ notes := by
  have hm : last / b ≤ at_ / b := Int.ediv_le_ediv h.b1 hat
  have hl : last / b - B < lo := by omega
  have e := runW_img h (n := cnt) (lo := lo) rawOk_zero hl
  rw [imgC_zero, RawC.zero_add] at e
  rw [sumBk_run, e]
  unfold winC
  congr 1
  refine sumW_congr (fun x hx => ?_)
  obtain ⟨x0, x1⟩ := h.nn x hx
  have q0 : 0 ≤ x.at_ / b := Int.ediv_nonneg x0 (by have := h.b1; omega)
  have q1 : x.at_ / b ≤ last / b := Int.ediv_le_ediv h.b1 x1
  rw [← Bool.decide_and]
  congr 1
  exact propext ⟨fun h => by omega, fun h => by omega⟩
theorem lo_cnt {K B : Int} (hK : 0 ≤ K) (hB : 1 ≤ B) : ∃ (lo : Int) (cnt : Nat), lo = max 0 (K - B + 1) ∧ (cnt : Int) = K - lo + 1 := by
  obtain ⟨lo, hlo⟩ : ∃ lo, lo = max 0 (K - B + 1) := ⟨_, rfl⟩
  exact ⟨lo, (K - lo + 1).toNat, hlo, by omega⟩
structure WinN (w : World) (p m : Nat) (W B last : Int) (notes : List NoteW) : Prop where
  ex : ∃ f, WinAt w p m W B last f ∧ InvW (W / B) B last notes f
theorem WinN.lt {w : World} {p m : Nat} {W B last : Int} {notes : List NoteW} (h : WinN w p m W B last notes) : p < w.heap.size ∧ m < w.heap.size := by
  obtain ⟨f, h1, _⟩ := h.ex
  exact h1.lt
theorem WinN.kept {w w' : World} {p m : Nat} {W B last : Int} {notes : List NoteW} (h : WinN w p m W B last notes) (hp : w'.heap[p]? = w.heap[p]?) (hm : w'.heap[m]? = w.heap[m]?) : WinN w' p m W B last notes := by
  obtain ⟨f, h1, h2⟩ := h.ex
  exact ⟨f, h1.kept hp hm, h2⟩
theorem WinN.below {w w' : World} {p m : Nat} {W B last : Int} {notes : List NoteW} (h : WinN w p m W B last notes) (hb : Below w.heap.size w w') : WinN w' p m W B last notes := h.kept (hb.block p h.lt.1) (hb.block m h.lt.2)
theorem WinN.cell {w : World} {p m : Nat} {W B last : Int} {notes : List NoteW} (h : WinN w p m W B last notes) : w.cell? ⟨p, 2, none⟩ = some (.int .i64 last) := by
  obtain ⟨f, h1, _⟩ := h.ex
  exact h1.cells.2.2.1
theorem WinN.last {w : World} {p m : Nat} {W B last : Int} {notes : List NoteW} (h : WinN w p m W B last notes) : 0 ≤ last ∧ last ≤ 1152921504606846976 := by
  obtain ⟨f, h1, _⟩ := h.ex
  exact ⟨h1.l0, h1.l1⟩
theorem WinN.right {w : World} {p m : Nat} {W B last : Int} {notes : List NoteW} (h : WinN w p m W B last notes) : RightL notes ∧ ∀ x, x ∈ notes → 0 ≤ x.at_ ∧ x.at_ ≤ last := by
  obtain ⟨f, _, h1⟩ := h.ex
  exact ⟨h1.right, h1.nn⟩
theorem winN_made (w : World) {W B : Int} (hS : ShapeW W B) : WinN ((w.alloc (.map #[] 0)).alloc (winObj W B w.heap.size)) (w.heap.size + 1) w.heap.size W B 0 [] :=
  ⟨_, winAt_made w hS, InvW.empty hS.slot hS.b0⟩
theorem wAddN_any {w : World} {p m : Nat} {W B last : Int} {notes : List NoteW} (h : WinN w p m W B last notes) (at_ : Int) (hE : lookW last at_ = 0) (a : Option Addr) (len cap : Nat) (cs : List CntS) (hl : cs.length = len) (hm : len ≤ 1099511627776) (hnil : a = none → len = 0 ∧ cap = 0)
    (hc : CtsAt w a cs) (hr : ∀ c, c ∈ cs → RightC c) (hap : ∀ g off, a = some ⟨g, off, none⟩ → g ≠ p ∧ g ≠ m) :
    Calls Tryz.prog 42 #[.pointer (some ⟨p, 0, none⟩), .int .i64 at_, .slice a len cap] w fun e w' => e = .returned (.int .i64 0) ∧ WinN w' p m W B at_ (notes ++ newW at_ cs) ∧ Off (fun i => i = p ∨ i = m) w w' := by
  obtain ⟨f, h1, h2⟩ := h.ex
  exact (wadd_any h1 at_ hE a len cap cs hl hm hnil hc hr hap).mono fun e w' h => ⟨h.1, ⟨_, h.2.at', h2.add (lookW_ok hE).2.2 hr⟩, h.2.off⟩
theorem wSumN_any {w : World} {p m : Nat} {W B last : Int} {notes : List NoteW} (h : WinN w p m W B last notes) (at_ : Int) (hE : lookW last at_ = 0) :
    Calls Tryz.prog 68 #[.pointer (some ⟨p, 0, none⟩), .int .i64 at_] w fun e w' => e = .returned (.tuple #[ctV (winC (W / B) B at_ notes), .int .i64 0]) ∧ Below w.heap.size w w' := by
  obtain ⟨f, h1, h2⟩ := h.ex
  obtain ⟨lo, cnt, q1, q2⟩ := lo_cnt (K := at_ / (W / B)) (B := B) (Int.ediv_nonneg (lookW_ok hE).1 (by have := h1.shape.slot; omega)) h1.shape.b0
  have := wSum_any h1 hE _ rfl cnt lo q1 q2
  rw [h2.sum2 (lookW_ok hE).2.2 q1 q2] at this
  exact this
end Go.Proofs.YtemlafbkkaloiaaGreat
namespace Go.Proofs.YtemlafbkkaloiaaGreat
open Go.RowKit
structure HW where
  key : ByteArray
  p : Nat
  m : Nat
  last : Int
  notes : List NoteW
structure HotC where
  R : HotS
  seed : Int
  hb : Nat
  B : Nat
  M : Nat
  N : Nat
  mw : Nat
  sb : Nat
structure HotV where
  L : List LNode
  WS : List HW
  last : Int
  ls : Int
  sn : List NoteS
  v : Value
  bs : List BkS
def HotC.W (c : HotC) : Int := c.R.secs * 1000000
def HotC.sh (c : HotC) : ShapeS := ⟨c.W, 10, 4, 256, c.seed⟩
def findW (WS : List HW) (s : ByteArray) : Option HW := WS.find? (fun x => decide (x.key = s))
def hotCells (c : HotC) (last : Int) : Array Value := #[.string c.R.res, .int .i64 c.R.idx, .int .i64 c.R.cnt, .int .i64 c.R.secs, .slice c.R.ia c.R.il c.R.ic, .pointer (some ⟨c.B, 0, none⟩), .map (some c.mw), .pointer (some ⟨c.sb, 0, none⟩), .int .i64 last]
structure HotCol (c : HotC) (s : HotV) (col : Nat → Nat) : Prop where
  lru : ∀ i, Lown c.B c.M s.L i → col i = 1
  sk : ∀ i, SkOwn c.sb s.v s.bs i → col i = 2
  map : col c.mw = 3
  head : col c.hb = 4
  items : ∀ g off, c.R.ia = some ⟨g, off, none⟩ → col g = 5
  wins : ∀ x, x ∈ s.WS → col x.p = 6 + x.p ∧ col x.m = 6 + x.p
structure HotCore (w : World) (c : HotC) (s : HotV) : Prop where
  head : w.heap[c.hb]? = some (.cells (hotCells c s.last) 64)
  ok : HotOk w c.R
  fine : hotE c.R = 0
  ilt : ∀ g off, c.R.ia = some ⟨g, off, none⟩ → g < w.heap.size
  lru : Lru w c.B c.M c.N s.L
  wmap : ∃ F n, MapV w 9 c.mw F n ∧ n ≤ s.WS.length ∧ ∀ k : ByteArray, k.size ≤ maxLen → F (.string k) = (findW s.WS k).map (fun x => .pointer (some ⟨x.p, 0, none⟩))
  wins : ∀ x, x ∈ s.WS → WinN w x.p x.m c.W 10 x.last x.notes ∧ x.last ≤ s.last
  sk : SkInv w c.sb c.sh (c.R.secs * 100000) s.ls s.sn s.v s.bs
  lsl : s.ls ≤ s.last
  skf : s.bs.length ≤ 1099511627777
  l0 : 0 ≤ s.last
  l1 : s.last ≤ 1152921504606846976
  keys : (s.WS.map (·.key)).Nodup
  ps : (s.WS.map (·.p)).Nodup
  s0 : 0 ≤ c.seed
  s1 : c.seed ≤ 18446744073709551615
  col : ∃ col, HotCol c s col
structure HotAt (w : World) (c : HotC) (s : HotV) : Prop extends HotCore w c s where
  same : ∀ k, hasA (pr s.L) k = (findW s.WS k).isSome
  few : s.WS.length ≤ 4096
def HOwn (c : HotC) (s : HotV) (i : Nat) : Prop := Lown c.B c.M s.L i ∨ SkOwn c.sb s.v s.bs i ∨ i = c.mw ∨ i = c.hb ∨ ∃ x, x ∈ s.WS ∧ (i = x.p ∨ i = x.m)
theorem hot_parts {h : HotS} (e : hotE h = 0) : (0 ≤ h.cnt ∧ h.cnt ≤ 1099511627776) ∧ (1 ≤ h.secs ∧ h.secs ≤ 60) ∧ ∀ x, x ∈ h.items → 0 ≤ x.cnt ∧ x.cnt ≤ 1099511627776 := by
  have hb : (hot1B h && (hot2B h && hot3B h)) = true := by
    unfold hotE at e
    cases hn : namedB h.res [] <;> cases hh : (hot1B h && (hot2B h && hot3B h)) <;> simp [lookE, hn, hh] at e ⊢
  simp only [Bool.and_eq_true, hot1B, hot2B, hot3B, inR, decide_eq_true_eq] at hb
  obtain ⟨⟨_, h1, h2⟩, ⟨⟨⟨h3, h4⟩, _⟩, _⟩, h5⟩ := hb
  refine ⟨⟨h1, h2⟩, ⟨h3, h4⟩, fun x hx => ?_⟩
  have := h5
  rw [Bool.not_eq_true', List.any_eq_false] at this
  have hx2 := this x hx
  simp only [itemBad, inR, Bool.or_eq_true, Bool.not_eq_true', Bool.and_eq_false_iff, decide_eq_false_iff_not, decide_eq_true_eq, not_or] at hx2
  omega
theorem HotCore.shW {w : World} {c : HotC} {s : HotV} (k : HotCore w c s) : ShapeW c.W 10 := by
  obtain ⟨_, ⟨h1, h2⟩, _⟩ := hot_parts k.fine
  refine ⟨?_, ?_, by omega, by omega, ?_⟩ <;> unfold HotC.W <;> omega
theorem HotC.shOk {c : HotC} (h1 : 1 ≤ c.R.secs) (h2 : c.R.secs ≤ 60) (s0 : 0 ≤ c.seed) (s1 : c.seed ≤ 18446744073709551615) : ShapeOk c.sh (c.R.secs * 100000) := by
  constructor <;> (try simp only [HotC.sh, HotC.W]) <;> omega
theorem HotCore.shS {w : World} {c : HotC} {s : HotV} (k : HotCore w c s) : ShapeOk c.sh (c.R.secs * 100000) := by
  obtain ⟨_, ⟨h1, h2⟩, _⟩ := hot_parts k.fine
  exact HotC.shOk h1 h2 k.s0 k.s1
theorem HotCore.wb {w : World} {c : HotC} {s : HotV} (k : HotCore w c s) : c.W / 10 = c.R.secs * 100000 := by unfold HotC.W; omega
theorem HotCore.lt {w : World} {c : HotC} {s : HotV} (k : HotCore w c s) {i : Nat} (hi : HOwn c s i) : i < w.heap.size := by
  rcases hi with h | h | rfl | rfl | ⟨x, hx, h⟩
  · exact k.lru.lt h
  · exact k.sk.at_.lt h
  · obtain ⟨F, n, h1, _⟩ := k.wmap
    exact h1.lt
  · exact (Array.getElem?_eq_some_iff.1 k.head).1
  · obtain ⟨h1, _⟩ := k.wins x hx
    rcases h with rfl | rfl
    · exact h1.lt.1
    · exact h1.lt.2
theorem HotOk.kept {w w' : World} {h : HotS} (k : HotOk w h) (hz : w.heap.size ≤ w'.heap.size) (hk : ∀ g off, h.ia = some ⟨g, off, none⟩ → w'.heap[g]? = w.heap[g]?) : HotOk w' h := by
  refine ⟨k.z, k.l, k.lc, k.b, k.nil, ?_, k.iz⟩
  rcases k.at_ with h1 | ⟨b, off, h1, h2, h3⟩
  · exact Or.inl h1
  · exact Or.inr ⟨b, off, h1, Nat.lt_of_lt_of_le h2 hz, fun j r hj i u hi hu => (World.cell?_of_block (a := ⟨b, off + j * 2 + i, none⟩) (hk b off h1)).trans (h3 j r hj i u hi hu)⟩
theorem HotCore.kept {w w' : World} {c : HotC} {s : HotV} (k : HotCore w c s) (hz : w.heap.size ≤ w'.heap.size) (hk : ∀ i, HOwn c s i → w'.heap[i]? = w.heap[i]?) (hi : ∀ g off, c.R.ia = some ⟨g, off, none⟩ → w'.heap[g]? = w.heap[g]?) : HotCore w' c s := by
  refine ⟨(hk _ (Or.inr (Or.inr (Or.inr (Or.inl rfl))))).trans k.head, k.ok.kept hz hi, k.fine, fun g off e => Nat.lt_of_lt_of_le (k.ilt g off e) hz, k.lru.kept (fun b hb => hk b (Or.inl hb)), ?_, fun x hx => ?_, ⟨k.sk.at_.kept (fun i hi => hk i (Or.inr (Or.inl hi))), k.sk.inv⟩, k.lsl, k.skf, k.l0, k.l1, k.keys, k.ps, k.s0, k.s1, k.col⟩
  · obtain ⟨F, n, h1, h2, h3⟩ := k.wmap
    exact ⟨F, n, h1.kept (hk _ (Or.inr (Or.inr (Or.inl rfl)))), h2, h3⟩
  · obtain ⟨h1, h2⟩ := k.wins x hx
    exact ⟨h1.kept (hk _ (Or.inr (Or.inr (Or.inr (Or.inr ⟨x, hx, Or.inl rfl⟩))))) (hk _ (Or.inr (Or.inr (Or.inr (Or.inr ⟨x, hx, Or.inr rfl⟩))))), h2⟩
theorem HotCore.below {w w' : World} {c : HotC} {s : HotV} (k : HotCore w c s) (hb : Below w.heap.size w w') : HotCore w' c s := by
  refine ⟨(hb.block _ (k.lt (Or.inr (Or.inr (Or.inr (Or.inl rfl)))))).trans k.head, ⟨k.ok.z, k.ok.l, k.ok.lc, k.ok.b, k.ok.nil, k.ok.at_.below (Nat.le_refl _) hb, k.ok.iz⟩, k.fine, fun g off e => Nat.lt_of_lt_of_le (k.ilt g off e) hb.size, k.lru.below hb, ?_, fun x hx => ?_, k.sk.below hb, k.lsl, k.skf, k.l0, k.l1, k.keys, k.ps, k.s0, k.s1, k.col⟩
  · obtain ⟨F, n, h1, h2, h3⟩ := k.wmap
    exact ⟨F, n, h1.below hb, h2, h3⟩
  · obtain ⟨h1, h2⟩ := k.wins x hx
    exact ⟨h1.below hb, h2⟩
theorem HotCore.cells {w : World} {c : HotC} {s : HotV} (k : HotCore w c s) : w.cell? ⟨c.hb, 0, none⟩ = some (.string c.R.res) ∧ w.cell? ⟨c.hb, 1, none⟩ = some (.int .i64 c.R.idx) ∧ w.cell? ⟨c.hb, 2, none⟩ = some (.int .i64 c.R.cnt) ∧ w.cell? ⟨c.hb, 3, none⟩ = some (.int .i64 c.R.secs) ∧ w.cell? ⟨c.hb, 4, none⟩ = some (.slice c.R.ia c.R.il c.R.ic) ∧
    w.cell? ⟨c.hb, 5, none⟩ = some (.pointer (some ⟨c.B, 0, none⟩)) ∧ w.cell? ⟨c.hb, 6, none⟩ = some (.map (some c.mw)) ∧ w.cell? ⟨c.hb, 7, none⟩ = some (.pointer (some ⟨c.sb, 0, none⟩)) ∧ w.cell? ⟨c.hb, 8, none⟩ = some (.int .i64 s.last) := by
  have h := k.head
  refine ⟨?_, ?_, ?_, ?_, ?_, ?_, ?_, ?_, ?_⟩ <;> simp [World.cell?, h, hotCells]
theorem HotAt.below {w w' : World} {c : HotC} {s : HotV} (k : HotAt w c s) (hb : Below w.heap.size w w') : HotAt w' c s := ⟨k.toHotCore.below hb, k.same, k.few⟩
theorem HotAt.kept {w w' : World} {c : HotC} {s : HotV} (k : HotAt w c s) (hz : w.heap.size ≤ w'.heap.size) (hk : ∀ i, HOwn c s i → w'.heap[i]? = w.heap[i]?) (hi : ∀ g off, c.R.ia = some ⟨g, off, none⟩ → w'.heap[g]? = w.heap[g]?) : HotAt w' c s := ⟨k.toHotCore.kept hz hk hi, k.same, k.few⟩
end Go.Proofs.YtemlafbkkaloiaaGreat
namespace Go.Proofs.YtemlafbkkaloiaaGreat
open Go.RowKit
def limI (R : HotS) (s : ByteArray) : Int := match R.items.find? (fun x => x.val.toList == s.toList) with | some x => x.cnt | none => R.cnt
theorem limI_bd {R : HotS} (h : hotE R = 0) (s : ByteArray) : 0 ≤ limI R s ∧ limI R s ≤ 1099511627776 := by
  obtain ⟨h1, _, h3⟩ := hot_parts h
  unfold limI
  cases hf : R.items.find? (fun x => x.val.toList == s.toList) with
  | none => exact h1
  | some x => exact h3 x (List.mem_of_find?_eq_some hf)
theorem find_idxI {p : ItemS → Bool} {bs : List ItemS} (h : idxI p bs = -1) : bs.find? p = none := by
  rcases idxI_cases p bs with ⟨_, h1⟩ | ⟨k, hk, h1, _⟩
  · rw [List.find?_eq_none]; intro x hx; rw [h1 x hx]; simp
  · rw [h1] at h; omega
theorem find_at {p : ItemS → Bool} : ∀ {bs : List ItemS} {k : Nat} (hk : k < bs.length), p bs[k] = true → (∀ j (hj : j < k), p (bs[j]'(by omega)) = false) → bs.find? p = some bs[k]
  | x :: bs, 0, hk, h1, _ => by
    simp only [List.getElem_cons_zero] at h1 ⊢
    rw [List.find?_cons, h1]
  | x :: bs, k + 1, hk, h1, h2 => by
    have h0 := h2 0 (by omega)
    simp only [List.getElem_cons_zero] at h0
    rw [List.find?_cons, h0]
    exact find_at (bs := bs) (k := k) (by simpa using hk) (by simpa using h1) (fun j hj => by have := h2 (j + 1) (by omega); simpa using this)
theorem hlim1_any (x : ItemS) (q : Nat) (s : ByteArray) (w : World) (hq : w.cell? ⟨q, 0, none⟩ = some (.string s)) :
    Calls Tryz.prog 67 #[x.v, .pointer (some ⟨q, 0, none⟩)] w fun e w' => e = .returned (.bool (x.val.toList == s.toList)) ∧ Below w.heap.size w w' := by
  have hql := World.block_lt_of_cell? w _ hq
  have hq2 := (World.cell?_alloc_lt w (.cells #[.string x.val, .int .i64 x.cnt] 52) _ hql).trans hq
  have hb : Below w.heap.size w (w.alloc (.cells #[.string x.val, .int .i64 x.cnt] 52)) := (Below.refl _ _).alloc (Nat.le_refl _) _
  have HB := Lib.hid hb
  unfold ItemS.v
  clear hb
  go_enter Tryz.func67, Tryz.ntmps67
  go_wp2_with (fail)
  go_ret
  exact ⟨rfl, HB.out⟩
theorem enHL1 (x : ItemS) (q : Nat) (wx : World) : (callFunc 67 (#[x.v] ++ #[.pointer (some ⟨q, 0, none⟩)])).run Tryz.prog wx = .ok (.enter 67 (#[x.v] ++ #[.pointer (some ⟨q, 0, none⟩)])) wx := by kernel_rfl
def ruleO (R : HotS) : Obj := .cells #[.string R.res, .int .i64 R.idx, .int .i64 R.cnt, .int .i64 R.secs, .slice R.ia R.il R.ic] 60
set_option maxHeartbeats 3200000 in
set_option maxRecDepth 100000 in
theorem hlimit_any {w : World} (R : HotS) (ok : HotOk w R) (s : ByteArray) :
    Calls Tryz.prog 38 #[R.v, .string s] w fun e w' => e = .returned (.int .i64 (limI R s)) ∧ Below w.heap.size w w' := by
  have hn1 := new_blockS w (ruleO R)
  have hb1 : Below w.heap.size w (w.alloc (ruleO R)) := (Below.refl _ _).alloc (Nat.le_refl _) _
  have hb2 : Below w.heap.size w ((w.alloc (ruleO R)).alloc (.cells #[.string s] 9)) := hb1.alloc (by simp) _
  have hcs := new_blockS (w.alloc (ruleO R)) (.cells #[.string s] 9)
  rw [show (w.alloc (ruleO R)).heap.size = w.heap.size + 1 by simp] at hcs
  have hcr : ((w.alloc (ruleO R)).alloc (.cells #[.string s] 9)).heap[w.heap.size]? = some (ruleO R) := (Below.heap_alloc _ _ _ (by simp)).trans hn1
  have HB2 := Lib.hid hb2
  have HCS := Lib.hid hcs
  have HCR := Lib.hid hcr
  have HIX := Lib.hid (itemidx_any (w := (w.alloc (ruleO R)).alloc (.cells #[.string s] 9)) R.ia R.il R.ic R.items ok.l (by have := ok.b; omega) (ok.at_.below (Nat.le_refl _) hb2) 67 #[.pointer (some ⟨w.heap.size + 1, 0, none⟩)] (fun x => x.val.toList == s.toList)
    (fun x hx wx => enHL1 x _ wx) (fun x hx wx hw => hlim1_any x _ s wx ((hw.cell (p := ⟨w.heap.size + 1, 0, none⟩) (by simp)).trans (by simp only [World.cell?, hcs]; rfl))))
  have HOK := Lib.hid ok
  clear ok hn1 hb1 hb2 hcs hcr
  unfold HotS.v
  unfold ruleO at HIX
  go_enter Tryz.func38, Tryz.ntmps38
  go_wp2_with (fail)
  refine HIX.out.mono ?_
  rintro e w2 ⟨rfl, h2⟩
  have hb := HB2.out.trans (h2.mono HB2.out.size)
  have hr := (h2.block w.heap.size (by simp; omega)).trans HCR.out
  have HB := Lib.hid hb
  have c2 : w2.cell? ⟨w.heap.size, 2, none⟩ = some (.int .i64 R.cnt) := by simp only [World.cell?, hr]; rfl
  have c4 : w2.cell? ⟨w.heap.size, 4, none⟩ = some (.slice R.ia R.il R.ic) := by simp only [World.cell?, hr]; rfl
  rcases idxI_cases (fun x : ItemS => x.val.toList == s.toList) R.items with ⟨h1, h3⟩ | ⟨k, hk, h1, h3, h4⟩
  · rw [h1]
    have hf := find_idxI h1
    have HL := Lib.hid (show limI R s = R.cnt by unfold limI; rw [hf])
    clear HIX h1 h3 hf hr hb h2 HCS HCR HB2
    go_wp2_with (fail)
    go_ret
    exact ⟨by rw [HL.out]; rfl, HB.out⟩
  · rw [h1]
    have hf := find_at (p := fun x : ItemS => x.val.toList == s.toList) hk h3 h4
    have HL := Lib.hid (show limI R s = (R.items[k]'hk).cnt by unfold limI; rw [hf])
    obtain ⟨g, off, hia, hg, d0, d1⟩ := items_get (HOK.out.at_.below (Nat.le_refl _) hb) hk
    have hkl : k < R.il := by have := HOK.out.l; omega
    have k0 : (0 : Int) ≤ k := by omega
    have k1 : (k : Int) < R.il := by omega
    rw [hia] at c4
    generalize (R.items[k]'hk).cnt = X at *
    clear HIX h1 h3 h4 hf hr hb h2 HCS HCR HB2 d0 hg hia
    go_wp2_with (fail)
    go_ret
    exact ⟨by rw [HL.out]; rfl, HB.out⟩
end Go.Proofs.YtemlafbkkaloiaaGreat
namespace Go.Proofs.YtemlafbkkaloiaaGreat
open Go.RowKit
theorem under_mapW : Tryz.prog.underlying 61 = some (.map 9 79) := by kernel_rfl
theorem zero_ptrW (w : World) : (zeroValue 79).run Tryz.prog w = .ok (.pointer none) w := by kernel_rfl
theorem findW_mem {WS : List HW} {k : ByteArray} {x : HW} (h : findW WS k = some x) : x ∈ WS ∧ x.key = k := by
  unfold findW at h
  have h2 := List.find?_some h
  exact ⟨List.mem_of_find?_eq_some h, by simpa using h2⟩
theorem HotCore.look {w : World} {c : HotC} {s : HotV} (k : HotCore w c s) {key : ByteArray} (hk : key.size ≤ maxLen) :
    (Instr.lookup 61 (.map (some c.mw)) (.string key) true).run Tryz.prog w = .ok (.tuple #[.pointer ((findW s.WS key).map (fun x => ⟨x.p, 0, none⟩)), .bool (findW s.WS key).isSome]) w ∧
    (Instr.lookup 61 (.map (some c.mw)) (.string key) false).run Tryz.prog w = .ok (.pointer ((findW s.WS key).map (fun x => ⟨x.p, 0, none⟩))) w := by
  obtain ⟨F, n, h1, h2, h3⟩ := k.wmap
  have a1 := h1.look true strKeyed under_mapW (zero_ptrW w) (skeyOf hk)
  have a2 := h1.look false strKeyed under_mapW (zero_ptrW w) (skeyOf hk)
  rw [if_pos rfl, h3 key hk] at a1
  rw [if_neg (by simp), h3 key hk] at a2
  cases hf : findW s.WS key with
  | none => rw [hf] at a1 a2; exact ⟨a1, a2⟩
  | some x => rw [hf] at a1 a2; exact ⟨a1, a2⟩
def usedH (c : HotC) (s : HotV) (at_ : Int) (key : ByteArray) : Int := match findW s.WS key with | some x => (winC (c.R.secs * 100000) 10 at_ x.notes).p | none => estN c.sh (c.R.secs * 100000) at_ key s.sn
theorem estN_bd {h : ShapeS} {b at_ : Int} {key : ByteArray} {notes : List NoteS} (hn : NonNeg notes) : 0 ≤ estN h b at_ key notes ∧ estN h b at_ key notes ≤ 4611686018427387904 := by
  unfold estN
  refine leastS_bd ?_ _
  intro r
  exact capS_nonneg (sumP_nonneg hn)
theorem HotCore.usedBd {w : World} {c : HotC} {s : HotV} (k : HotCore w c s) (at_ : Int) (key : ByteArray) : 0 ≤ usedH c s at_ key ∧ usedH c s at_ key ≤ 4611686018427387904 := by
  unfold usedH
  cases hf : findW s.WS key with
  | none => exact estN_bd k.sk.inv.nonneg
  | some x =>
    have := winC_right (b := c.R.secs * 100000) (B := 10) (k.wins x (findW_mem hf).1).1.right.1 at_
    exact ⟨this.p0, this.p1⟩
def hwE (last at_ : Int) (key : ByteArray) : Int := if at_ < 0 ∨ 1152921504606846976 < at_ then 2 else if 64 < (key.size : Int) then 5 else if at_ < last then 7 else 0
theorem hwE_ok {last at_ : Int} {key : ByteArray} (h : hwE last at_ key = 0) : 0 ≤ at_ ∧ at_ ≤ 1152921504606846976 ∧ last ≤ at_ ∧ key.size ≤ 64 := by
  unfold hwE at h
  split at h
  · omega
  · split at h
    · omega
    · split at h
      · omega
      · omega
set_option maxHeartbeats 3200000 in
theorem hwrong_nil (at_ : Int) (key : ByteArray) (w : World) : Calls Tryz.prog 39 #[.pointer none, .int .i64 at_, .string key] w fun e w' => e = .returned (.int .i64 1) ∧ w' = w := by
  go_enter Tryz.func39, Tryz.ntmps39
  go_wp2_with (fail)
  go_ret
  exact ⟨rfl, rfl⟩
set_option maxHeartbeats 3200000 in
theorem hwrong_any (q : Nat) (last at_ : Int) (key : ByteArray) (w : World) (h : w.cell? ⟨q, 8, none⟩ = some (.int .i64 last)) : Calls Tryz.prog 39 #[.pointer (some ⟨q, 0, none⟩), .int .i64 at_, .string key] w fun e w' => e = .returned (.int .i64 (hwE last at_ key)) ∧ w' = w := by
  have HH := Lib.hid (fun x (h : hwE last at_ key = x) => h)
  by_cases h1 : at_ < 0
  · have hr : hwE last at_ key = 2 := by unfold hwE; rw [if_pos (Or.inl h1)]
    rw [hr]
    go_enter Tryz.func39, Tryz.ntmps39
    go_wp2_with (fail)
    go_ret
    exact ⟨rfl, rfl⟩
  · by_cases h2 : 1152921504606846976 < at_
    · have hr : hwE last at_ key = 2 := by unfold hwE; rw [if_pos (Or.inr h2)]
      rw [hr]
      go_enter Tryz.func39, Tryz.ntmps39
      go_wp2_with (fail)
      go_ret
      exact ⟨rfl, rfl⟩
    · by_cases h3 : 64 < (key.size : Int)
      · have hr : hwE last at_ key = 5 := by unfold hwE; rw [if_neg (by omega), if_pos h3]
        rw [hr]
        go_enter Tryz.func39, Tryz.ntmps39
        go_wp2_with (fail)
        go_ret
        exact ⟨rfl, rfl⟩
      · by_cases h4 : at_ < last
        · have hr : hwE last at_ key = 7 := by unfold hwE; rw [if_neg (by omega), if_neg h3, if_pos h4]
          rw [hr]
          go_enter Tryz.func39, Tryz.ntmps39
          go_wp2_with (fail)
          go_ret
          exact ⟨rfl, rfl⟩
        · have hr : hwE last at_ key = 0 := by unfold hwE; rw [if_neg (by omega), if_neg h3, if_neg h4]
          rw [hr]
          go_enter Tryz.func39, Tryz.ntmps39
          go_wp2_with (fail)
          go_ret
          exact ⟨rfl, rfl⟩
set_option maxHeartbeats 3200000 in
set_option maxRecDepth 100000 in
theorem hwidth_any (R : HotS) (h1 : 1 ≤ R.secs) (h2 : R.secs ≤ 60) (w : World) : Calls Tryz.prog 24 #[R.v] w fun e w' => e = .returned (.int .i64 (R.secs * 1000000)) ∧ Below w.heap.size w w' := by
  have HB := Lib.hid (show Below w.heap.size w (w.alloc (ruleO R)) from (Below.refl _ _).alloc (Nat.le_refl _) _)
  unfold HotS.v
  unfold ruleO at HB
  generalize R.secs = X at *
  go_enter Tryz.func24, Tryz.ntmps24
  go_wp2_with (fail)
  go_ret
  exact ⟨rfl, HB.out⟩
set_option maxHeartbeats 3200000 in
set_option maxRecDepth 100000 in
theorem hused_any {w : World} {c : HotC} {s : HotV} (k : HotCore w c s) (at_ : Int) (h0 : s.last ≤ at_) (h1 : at_ ≤ 1152921504606846976) (key : ByteArray) (hk : key.size ≤ maxLen) :
    Calls Tryz.prog 40 #[.pointer (some ⟨c.hb, 0, none⟩), .int .i64 at_, .string key] w fun e w' => e = .returned (.int .i64 (usedH c s at_ key)) ∧ Below w.heap.size w w' := by
  obtain ⟨_, _, _, _, _, _, c6, c7, _⟩ := k.cells
  have hlk := (k.look hk).1
  have hl0 := k.l0
  have HU : Hid (∀ u, usedH c s at_ key = u → usedH c s at_ key = u) := fun u h => h
  cases hf : findW s.WS key with
  | none =>
    have hu : usedH c s at_ key = estN c.sh (c.R.secs * 100000) at_ key s.sn := by unfold usedH; rw [hf]
    rw [hu]
    rw [hf] at hlk
    have HE := skEstI_any k.sk k.shS at_ key hk
    have hls := k.lsl
    rw [show lookS s.ls at_ = 0 by unfold lookS; rw [if_neg (by omega), if_neg (by omega)], if_pos rfl] at HE
    generalize estN c.sh (c.R.secs * 100000) at_ key s.sn = X at *
    have HE := Lib.hid HE
    clear hf hu hls k HU
    go_enter Tryz.func40, Tryz.ntmps40
    go_wp2_with (fail)
    refine HE.out.mono ?_
    rintro e w2 ⟨rfl, h2⟩
    go_wp2_with (fail)
    go_ret
    exact ⟨rfl, h2⟩
  | some x =>
    have hu : usedH c s at_ key = (winC (c.R.secs * 100000) 10 at_ x.notes).p := by unfold usedH; rw [hf]
    rw [hu]
    rw [hf] at hlk
    obtain ⟨hw, hxl⟩ := k.wins x (findW_mem hf).1
    have HE := wSumN_any hw at_ (by unfold lookW; rw [if_neg (by omega), if_neg (by omega)])
    rw [k.wb] at HE
    generalize winC (c.R.secs * 100000) 10 at_ x.notes = X at *
    obtain ⟨xp, xb, xd, xe, xr, xm⟩ := X
    dsimp only [ctV] at *
    dsimp only [Option.map_some, Option.isSome_some] at hlk
    have HE := Lib.hid HE
    clear hf hu hw hxl k HU
    go_enter Tryz.func40, Tryz.ntmps40
    go_wp2_with (fail)
    refine HE.out.mono ?_
    rintro e w2 ⟨rfl, h2⟩
    have hb : Below w.heap.size w (w2.alloc (.cells #[.int .i64 xp, .int .i64 xb, .int .i64 xd, .int .i64 xe, .int .i64 xr, .int .i64 xm] 92)) := h2.alloc h2.size _
    have HB := Lib.hid hb
    clear h2 hb
    go_wp2_with (fail)
    go_ret
    exact ⟨rfl, HB.out⟩
set_option maxHeartbeats 3200000 in
set_option maxRecDepth 100000 in
theorem hUsed_any {w : World} {c : HotC} {s : HotV} (k : HotAt w c s) (at_ : Int) (key : ByteArray) (hk : key.size ≤ maxLen) :
    Calls Tryz.prog 16 #[.pointer (some ⟨c.hb, 0, none⟩), .int .i64 at_, .string key] w fun e w' => e = .returned (.tuple #[.int .i64 (if hwE s.last at_ key = 0 then usedH c s at_ key else 0), .int .i64 (hwE s.last at_ key)]) ∧ Below w.heap.size w w' := by
  obtain ⟨_, _, _, _, _, _, _, _, c8⟩ := k.cells
  have HW := Lib.hid (hwrong_any c.hb s.last at_ key w c8)
  by_cases hE : hwE s.last at_ key = 0
  · obtain ⟨a0, a1, a2, _⟩ := hwE_ok hE
    have HU := Lib.hid (hused_any k.toHotCore at_ a2 a1 key hk)
    rw [if_pos hE]
    rw [hE] at HW ⊢
    clear hE k c8
    generalize usedH c s at_ key = U at *
    go_enter Tryz.func16, Tryz.ntmps16
    go_wp2_with (fail)
    refine HW.out.mono ?_
    rintro e wq ⟨rfl, hq⟩
    have hq := hq.symm
    subst hq
    go_wp2_with (fail)
    refine HU.out.mono ?_
    rintro e w2 ⟨rfl, h2⟩
    go_wp2_with (fail)
    go_ret2
    exact ⟨rfl, h2⟩
  · rw [if_neg hE]
    have hne : (hwE s.last at_ key != 0) = true := by simpa using hE
    clear hE k c8
    generalize hwE s.last at_ key = E at *
    go_enter Tryz.func16, Tryz.ntmps16
    go_wp2_with (fail)
    refine HW.out.mono ?_
    rintro e wq ⟨rfl, hq⟩
    have hq := hq.symm
    subst hq
    go_wp2_with (fail)
    go_ret2
    exact ⟨rfl, Below.refl _ _⟩
def badH (n : Int) : Bool := decide (n < 1) || decide (1099511627776 < n)
def lookHE (last at_ : Int) (key : ByteArray) (n : Int) : Int := if badH n then 2 else hwE last at_ key
def lookHB (c : HotC) (s : HotV) (at_ : Int) (key : ByteArray) (n : Int) : Bool := decide (lookHE s.last at_ key n = 0) && decide (usedH c s at_ key ≤ limI c.R key - n)
theorem badH_no {n : Int} (h : badH n = false) : 1 ≤ n ∧ n ≤ 1099511627776 := by
  simp only [badH, Bool.or_eq_false_iff, decide_eq_false_iff_not] at h; omega
theorem lookHE_ok {last at_ n : Int} {key : ByteArray} (h : lookHE last at_ key n = 0) : (1 ≤ n ∧ n ≤ 1099511627776) ∧ hwE last at_ key = 0 := by
  unfold lookHE at h
  cases hb : badH n
  · rw [hb, if_neg (by simp)] at h
    exact ⟨badH_no hb, h⟩
  · rw [hb, if_pos rfl] at h; omega
set_option maxHeartbeats 6400000 in
set_option maxRecDepth 100000 in
theorem hlook_any {w : World} {c : HotC} {s : HotV} (k : HotAt w c s) (at_ : Int) (key : ByteArray) (hk : key.size ≤ maxLen) (n : Int) :
    Calls Tryz.prog 17 #[.pointer (some ⟨c.hb, 0, none⟩), .int .i64 at_, .string key, .int .i64 n] w fun e w' => e = .returned (.tuple #[.bool (lookHB c s at_ key n), .int .i64 (lookHE s.last at_ key n)]) ∧ Below w.heap.size w w' := by
  obtain ⟨c0, c1, c2, c3, c4, c5, c6, c7, c8⟩ := k.cells
  have HW := Lib.hid (hwrong_any c.hb s.last at_ key w c8)
  cases hbn : badH n with
  | true =>
    have hE : lookHE s.last at_ key n = 2 := by unfold lookHE; rw [hbn, if_pos rfl]
    have hBB : lookHB c s at_ key n = false := by unfold lookHB; rw [hE]; rfl
    rw [hE, hBB]
    clear k c0 c1 c2 c3 c4 c5 c6 c7 c8 hE hBB
    simp only [badH, Bool.or_eq_true, decide_eq_true_eq] at hbn
    by_cases hn1 : n < 1
    · clear hbn
      go_enter Tryz.func17, Tryz.ntmps17
      go_wp2_with (fail)
      go_ret2
      exact ⟨rfl, Below.refl _ _⟩
    · have hn2 : 1099511627776 < n := by omega
      clear hbn
      go_enter Tryz.func17, Tryz.ntmps17
      go_wp2_with (fail)
      go_ret2
      exact ⟨rfl, Below.refl _ _⟩
  | false =>
    obtain ⟨hn1, hn2⟩ := badH_no hbn
    have hE : lookHE s.last at_ key n = hwE s.last at_ key := by unfold lookHE; rw [hbn, if_neg (by simp)]
    have m1 : ¬ n < 1 := by omega
    have m2 : ¬ 1099511627776 < n := by omega
    by_cases hz : hwE s.last at_ key = 0
    · have hBB : lookHB c s at_ key n = decide (usedH c s at_ key ≤ limI c.R key - n) := by unfold lookHB; rw [hE, hz]; simp
      obtain ⟨a0, a1, a2, _⟩ := hwE_ok hz
      obtain ⟨u0, u1⟩ := k.usedBd at_ key
      obtain ⟨l0, l1⟩ := limI_bd k.fine key
      rw [hE, hz, hBB]
      rw [hz] at HW
      have HU : Hid (∀ wx, Below w.heap.size w wx → Calls Tryz.prog 40 #[.pointer (some ⟨c.hb, 0, none⟩), .int .i64 at_, .string key] wx fun e w' => e = .returned (.int .i64 (usedH c s at_ key)) ∧ Below wx.heap.size wx w') := fun wx hx => hused_any (k.below hx).toHotCore at_ a2 a1 key hk
      have HLM : Hid (∀ wx, Below w.heap.size w wx → Calls Tryz.prog 38 #[.agg #[.string c.R.res, .int .i64 c.R.idx, .int .i64 c.R.cnt, .int .i64 c.R.secs, .slice c.R.ia c.R.il c.R.ic], .string key] wx fun e w' => e = .returned (.int .i64 (limI c.R key)) ∧ Below wx.heap.size wx w') := fun wx hx => hlimit_any c.R (k.below hx).ok key
      have SB : Hid (∀ wx, Below w.heap.size w wx → (fun wx => ((wx.cell? ⟨c.hb, 0, none⟩ = some (.string c.R.res) ∧ wx.cell? ⟨c.hb, 1, none⟩ = some (.int .i64 c.R.idx) ∧ wx.cell? ⟨c.hb, 2, none⟩ = some (.int .i64 c.R.cnt) ∧ wx.cell? ⟨c.hb, 3, none⟩ = some (.int .i64 c.R.secs) ∧ wx.cell? ⟨c.hb, 4, none⟩ = some (.slice c.R.ia c.R.il c.R.ic)) ∧ Below w.heap.size w wx)) wx) := fun wx hx => by
        obtain ⟨d0, d1, d2, d3, d4, _⟩ := (k.below hx).cells
        exact ⟨⟨d0, d1, d2, d3, d4⟩, hx⟩
      clear k hbn hE hBB hz
      generalize usedH c s at_ key = U at *
      generalize limI c.R key = LM at *
      have hwr : IntKind.i64.wrap (LM - n) = LM - n := IntWalk.i64_in _ (by omega)
      go_enter Tryz.func17, Tryz.ntmps17
      go_wp2_with (fail)
      refine HW.out.mono ?_
      rintro e wq ⟨rfl, hq⟩
      have hq := hq.symm
      subst hq
      go_wp2_with (fail)
      refine wp_region_noPanic ?_
      refine wp_region_held_drew (S := (fun wx => ((wx.cell? ⟨c.hb, 0, none⟩ = some (.string c.R.res) ∧ wx.cell? ⟨c.hb, 1, none⟩ = some (.int .i64 c.R.idx) ∧ wx.cell? ⟨c.hb, 2, none⟩ = some (.int .i64 c.R.cnt) ∧ wx.cell? ⟨c.hb, 3, none⟩ = some (.int .i64 c.R.secs) ∧ wx.cell? ⟨c.hb, 4, none⟩ = some (.slice c.R.ia c.R.il c.R.ic)) ∧ Below w.heap.size w wx))) (by kernel_rfl) ?_ (fun hHeld => ?_)
      · exact SB.out _ (Below.refl _ _).drew
      refine wpAnyH_take (i := 0) (v := ?_) rfl (by kernel_rfl) (by kernel_rfl) (by kernel_rfl) (fun _ _ _ h => h) (Or.inl ⟨by rfl, ?hy⟩) (by assumption) ?_
      case hy => intro w hSw; (try dsimp only at hSw); go_simp; try with_reducible rfl
      try simp only [Act.put, szA, szB, szC, szD, szE, szF]
      refine wpAnyH_take (i := 1) (v := ?_) rfl (by kernel_rfl) (by kernel_rfl) (by kernel_rfl) (fun _ _ _ h => h) (Or.inl ⟨by rfl, ?hy⟩) (by assumption) ?_
      case hy => intro w hSw; (try dsimp only at hSw); go_simp; try with_reducible rfl
      try simp only [Act.put, szA, szB, szC, szD, szE, szF]
      refine wpAnyH_take (i := 2) (v := ?_) rfl (by kernel_rfl) (by kernel_rfl) (by kernel_rfl) (fun _ _ _ h => h) (Or.inl ⟨by rfl, ?hy⟩) (by assumption) ?_
      case hy => intro w hSw; (try dsimp only at hSw); go_simp; try with_reducible rfl
      try simp only [Act.put, szA, szB, szC, szD, szE, szF]
      refine wpAnyH_take (i := 4) (v := ?_) rfl (by kernel_rfl) (by kernel_rfl) (by kernel_rfl) (fun _ _ _ h => h) (Or.inl ⟨by rfl, ?hy⟩) (by assumption) ?_
      case hy => intro w hSw; (try dsimp only at hSw); go_simp; try with_reducible rfl
      try simp only [Act.put, szA, szB, szC, szD, szE, szF]
      refine wpAnyH_take (i := 5) (v := ?_) rfl (by kernel_rfl) (by kernel_rfl) (by kernel_rfl) (fun _ _ _ h => h) (Or.inl ⟨by rfl, ?hy⟩) (by assumption) ?_
      case hy => intro w hSw; (try dsimp only at hSw); go_simp; try with_reducible rfl
      try simp only [Act.put, szA, szB, szC, szD, szE, szF]
      refine wpAnyH_take (i := 6) (v := ?_) rfl (by kernel_rfl) (by kernel_rfl) (by kernel_rfl) (fun _ _ _ h => h) (Or.inl ⟨by rfl, ?hy⟩) (by assumption) ?_
      case hy => intro w hSw; (try dsimp only at hSw); go_simp; try with_reducible rfl
      try simp only [Act.put, szA, szB, szC, szD, szE, szF]
      refine wpAnyH_take (i := 7) (v := ?_) rfl (by kernel_rfl) (by kernel_rfl) (by kernel_rfl) (fun _ _ _ h => h) (Or.inl ⟨by rfl, ?hy⟩) (by assumption) ?_
      case hy => intro w hSw; (try dsimp only at hSw); go_simp; try with_reducible rfl
      try simp only [Act.put, szA, szB, szC, szD, szE, szF]
      refine wpAnyH_take (i := 8) (v := ?_) rfl (by kernel_rfl) (by kernel_rfl) (by kernel_rfl) (fun _ _ _ h => h) (Or.inl ⟨by rfl, ?hy⟩) (by assumption) ?_
      case hy => intro w hSw; (try dsimp only at hSw); go_simp; try with_reducible rfl
      try simp only [Act.put, szA, szB, szC, szD, szE, szF]
      refine wpAnyH_take (i := 10) (v := ?_) rfl (by kernel_rfl) (by kernel_rfl) (by kernel_rfl) (fun _ _ _ h => h) (Or.inl ⟨by rfl, ?hy⟩) (by assumption) ?_
      case hy => intro w hSw; (try dsimp only at hSw); go_simp; try with_reducible rfl
      try simp only [Act.put, szA, szB, szC, szD, szE, szF]
      refine wpAnyH_ready (rs := [3]) (by kernel_rfl) (by simp) (AllReadyH.cons rfl (fun K hK => ?_) AllReadyH.nil)
      go_simp
      go_at_call 40; refine (HU.out _ hHeld.2).mono ?_; rintro e wq ⟨rfl, hbq⟩
      try (go_wp2_with fail)
      refine hK.out _ _ ?_ (fun hHeld => ?_)
      · exact SB.out _ (hHeld.2.trans (hbq.mono hHeld.2.size))
      clear hK K
      try simp only [Act.put, szA, szB, szC, szD, szE, szF]
      refine wpAnyH_ready (rs := [9]) (by kernel_rfl) (by simp) (AllReadyH.cons rfl (fun K hK => ?_) AllReadyH.nil)
      go_simp
      go_at_call 38; refine (HLM.out _ hHeld.2).mono ?_; rintro e wq ⟨rfl, hbq⟩
      try (go_wp2_with fail)
      refine hK.out _ _ ?_ (fun hHeld => ?_)
      · exact SB.out _ (hHeld.2.trans (hbq.mono hHeld.2.size))
      clear hK K
      try simp only [Act.put, szA, szB, szC, szD, szE, szF]
      refine wpAnyH_take (i := 11) (v := ?_) rfl (by kernel_rfl) (by kernel_rfl) (by kernel_rfl) (fun _ _ _ h => h) (Or.inl ⟨by rfl, ?hy⟩) (by assumption) ?_
      case hy => intro w hSw; (try dsimp only at hSw); go_simp; try with_reducible rfl
      try simp only [Act.put, szA, szB, szC, szD, szE, szF]
      refine wpAnyH_take (i := 12) (v := ?_) rfl (by kernel_rfl) (by kernel_rfl) (by kernel_rfl) (fun _ _ _ h => h) (Or.inl ⟨by rfl, ?hy⟩) (by assumption) ?_
      case hy => intro w hSw; (try dsimp only at hSw); go_simp; try with_reducible rfl
      try simp only [Act.put, szA, szB, szC, szD, szE, szF]
      refine wpAnyH_take (i := 13) (v := ?_) rfl (by kernel_rfl) (by kernel_rfl) (by kernel_rfl) (fun _ _ _ h => h) (Or.inl ⟨by rfl, ?hy⟩) (by assumption) ?_
      case hy => intro w hSw; (try dsimp only at hSw); go_simp; try with_reducible rfl
      try simp only [Act.put, szA, szB, szC, szD, szE, szF]
      refine wpAnyH_take (i := 14) (v := ?_) rfl (by kernel_rfl) (by kernel_rfl) (by kernel_rfl) (fun _ _ _ h => h) (Or.inl ⟨by rfl, ?hy⟩) (by assumption) ?_
      case hy => intro w hSw; (try dsimp only at hSw); go_simp; try with_reducible rfl
      try simp only [Act.put, szA, szB, szC, szD, szE, szF]
      refine wpAnyH_done (by kernel_rfl) ?_ _
      refine NoPanic.normal ?_
      go_wp2_with (fail)
      go_ret2
      exact ⟨rfl, hHeld.2⟩
    · have hBB : lookHB c s at_ key n = false := by unfold lookHB; rw [hE, decide_eq_false hz]; rfl
      have hne : (hwE s.last at_ key != 0) = true := by simpa using hz
      rw [hE, hBB]
      clear k hE hBB hz c0 c1 c2 c3 c4 c5 c6 c7 c8 hbn
      generalize hwE s.last at_ key = E at *
      go_enter Tryz.func17, Tryz.ntmps17
      go_wp2_with (fail)
      refine HW.out.mono ?_
      rintro e wq ⟨rfl, hq⟩
      have hq := hq.symm
      subst hq
      go_wp2_with (fail)
      go_ret2
      exact ⟨rfl, Below.refl _ _⟩
set_option maxHeartbeats 3200000 in
set_option maxRecDepth 100000 in
theorem hLimit_any {w : World} {c : HotC} {s : HotV} (k : HotAt w c s) (key : ByteArray) :
    Calls Tryz.prog 14 #[.pointer (some ⟨c.hb, 0, none⟩), .string key] w fun e w' => e = .returned (.int .i64 (limI c.R key)) ∧ Below w.heap.size w w' := by
  obtain ⟨c0, c1, c2, c3, c4, c5, c6, c7, c8⟩ := k.cells
  have HLM : Hid (Calls Tryz.prog 38 #[.agg #[.string c.R.res, .int .i64 c.R.idx, .int .i64 c.R.cnt, .int .i64 c.R.secs, .slice c.R.ia c.R.il c.R.ic], .string key] w fun e w' => e = .returned (.int .i64 (limI c.R key)) ∧ Below w.heap.size w w') := hlimit_any c.R k.ok key
  clear k
  go_enter Tryz.func14, Tryz.ntmps14
  go_wp2_with (fail)
  refine HLM.out.mono ?_
  rintro e w2 ⟨rfl, h2⟩
  go_wp2_with (fail)
  go_ret
  exact ⟨rfl, h2⟩
end Go.Proofs.YtemlafbkkaloiaaGreat
namespace Go.Proofs.YtemlafbkkaloiaaGreat
open Go.RowKit
abbrev KV := ByteArray × Int
def zs (ks : List ByteArray) : Nat → List KV
  | 0 => []
  | i + 1 => (ks.getD i ⟨#[]⟩, (i : Int)) :: zs ks i
end Go.Proofs.YtemlafbkkaloiaaGreat
namespace Go.Proofs.YtemlafbkkaloiaaGreat
open Go.RowKit
/-! ### plain -/
theorem findW_none {WS : List HW} {k : ByteArray} : findW WS k = none ↔ k ∉ WS.map (·.key) := by
  unfold findW
  rw [List.find?_eq_none]
  constructor
  · intro h hm
    obtain ⟨x, hx, rfl⟩ := List.mem_map.1 hm
    have := h x hx
    simp at this
  · intro h x hx
    simp only [decide_eq_true_eq]
    intro e
    exact h (List.mem_map.2 ⟨x, hx, e⟩)
theorem findW_some {WS : List HW} (hn : (WS.map (·.key)).Nodup) {x : HW} (hx : x ∈ WS) : findW WS x.key = some x := by
  cases hf : findW WS x.key with
  | none => exact absurd (List.mem_map.2 ⟨x, hx, rfl⟩) (findW_none.1 hf)
  | some y =>
    obtain ⟨h1, h2⟩ := findW_mem hf
    rw [nodup_map_inj hn h1 hx h2]
theorem findW_snoc (WS : List HW) (x : HW) (k : ByteArray) : findW (WS ++ [x]) k = (findW WS k).or (if x.key = k then some x else none) := by
  unfold findW
  rw [List.find?_append]
  by_cases e : x.key = k
  · simp [e]
  · simp [e]
def delW (WS : List HW) (g : ByteArray) : List HW := WS.filter (fun x => !decide (x.key = g))
theorem findW_del (WS : List HW) (g k : ByteArray) : findW (delW WS g) k = if k = g then none else findW WS k := by
  unfold findW delW
  induction WS with
  | nil => simp
  | cons x WS ih =>
    rw [List.filter_cons]
    by_cases e : x.key = g
    · rw [if_neg (by simp [e]), ih]
      by_cases e2 : k = g
      · rw [if_pos e2, if_pos e2]
      · rw [if_neg e2, if_neg e2, List.find?_cons]
        have : decide (x.key = k) = false := decide_eq_false (fun h => e2 (h.symm.trans e))
        rw [this]
    · rw [if_pos (by simp [e]), List.find?_cons, ih]
      by_cases e2 : x.key = k
      · have e3 : k ≠ g := fun h => e (e2.trans h)
        simp [e2, e3]
      · simp only [decide_eq_false e2]
        by_cases e3 : k = g
        · rw [if_pos e3, if_pos e3]
        · rw [if_neg e3, if_neg e3, List.find?_cons, decide_eq_false e2]
theorem delW_len {WS : List HW} (hn : (WS.map (·.key)).Nodup) {g : ByteArray} (h : (findW WS g).isSome = true) : (delW WS g).length + 1 = WS.length := by
  induction WS with
  | nil => simp [findW] at h
  | cons x WS ih =>
    obtain ⟨h1, h2⟩ := List.nodup_cons.1 hn
    unfold delW
    rw [List.filter_cons]
    by_cases e : x.key = g
    · rw [if_neg (by simp [e])]
      have : WS.filter (fun x => !decide (x.key = g)) = WS := List.filter_eq_self.2 (fun y hy => by
        simp only [Bool.not_eq_true', decide_eq_false_iff_not]
        intro e2
        exact h1 (List.mem_map.2 ⟨y, hy, e2.trans e.symm⟩))
      rw [this]; rfl
    · rw [if_pos (by simp [e])]
      have h3 : (findW WS g).isSome = true := by
        unfold findW at h ⊢
        rwa [List.find?_cons, decide_eq_false e] at h
      have := ih h2 h3
      unfold delW at this
      simp only [List.length_cons]
      omega
def updW (WS : List HW) (k : ByteArray) (at_ : Int) (ns : List NoteW) : List HW := WS.map (fun x => if x.key = k then ⟨x.key, x.p, x.m, at_, x.notes ++ ns⟩ else x)
theorem updW_keys (WS : List HW) (k : ByteArray) (at_ : Int) (ns : List NoteW) : (updW WS k at_ ns).map (·.key) = WS.map (·.key) := by
  unfold updW
  rw [List.map_map]
  apply List.map_congr_left
  intro x _
  show (if x.key = k then (⟨x.key, x.p, x.m, at_, x.notes ++ ns⟩ : HW) else x).key = x.key
  split <;> rfl
theorem updW_ps (WS : List HW) (k : ByteArray) (at_ : Int) (ns : List NoteW) : (updW WS k at_ ns).map (·.p) = WS.map (·.p) := by
  unfold updW
  rw [List.map_map]
  apply List.map_congr_left
  intro x _
  show (if x.key = k then (⟨x.key, x.p, x.m, at_, x.notes ++ ns⟩ : HW) else x).p = x.p
  split <;> rfl
theorem findW_upd (WS : List HW) (k q : ByteArray) (at_ : Int) (ns : List NoteW) : findW (updW WS k at_ ns) q = (findW WS q).map (fun x => if x.key = k then ⟨x.key, x.p, x.m, at_, x.notes ++ ns⟩ else x) := by
  unfold findW updW
  induction WS with
  | nil => rfl
  | cons x WS ih =>
    rw [List.map_cons, List.find?_cons, List.find?_cons]
    have : (if x.key = k then (⟨x.key, x.p, x.m, at_, x.notes ++ ns⟩ : HW) else x).key = x.key := by split <;> rfl
    rw [this]
    cases decide (x.key = q) with
    | true => rfl
    | false => exact ih
theorem updW_mem {WS : List HW} {k : ByteArray} {at_ : Int} {ns : List NoteW} {y : HW} (h : y ∈ updW WS k at_ ns) : ∃ x, x ∈ WS ∧ y.p = x.p ∧ y.m = x.m ∧ y.key = x.key ∧ ((x.key = k ∧ y.last = at_ ∧ y.notes = x.notes ++ ns) ∨ (x.key ≠ k ∧ y = x)) := by
  obtain ⟨x, hx, rfl⟩ := List.mem_map.1 h
  refine ⟨x, hx, ?_⟩
  by_cases e : x.key = k
  · rw [if_pos e]; exact ⟨rfl, rfl, rfl, Or.inl ⟨e, rfl, rfl⟩⟩
  · rw [if_neg e]; exact ⟨rfl, rfl, rfl, Or.inr ⟨e, rfl⟩⟩
theorem hasA_put {n : Nat} (hn : 1 ≤ n) {A : List (ByteArray × Int)} (hk : (A.map (·.1)).Nodup) (s : ByteArray) (v : Int) (k : ByteArray) :
    hasA (putA n A s v) k = (decide (k = s) || (hasA A k && !(wentA n A s && decide (k = goneA n A s)))) := by
  have e1 : ∀ B : List (ByteArray × Int), hasA (B ++ [(s, v)]) k = (hasA B k || decide (k = s)) := fun B => by
    unfold hasA
    rw [List.any_append]
    have : decide (s = k) = decide (k = s) := decide_eq_decide.2 eq_comm
    simp [this]
  unfold putA wentA goneA
  cases hh : hasA A s with
  | true =>
    rw [if_pos rfl, e1]
    have : hasA (delA A s) k = (hasA A k && !decide (k = s)) := by
      unfold hasA delA
      rw [List.any_filter]
      induction A with
      | nil => rfl
      | cons p A ih =>
        have ih := ih (List.nodup_cons.1 hk).2
        by_cases hA : hasA A s = true
        · have ih := ih hA
          rw [List.any_cons, List.any_cons, ih]
          by_cases e : p.1 = k
          · by_cases e2 : k = s <;> simp [e, e2]
          · simp [e]
        · have e3 : p.1 = s := by
            unfold hasA at hh hA
            rw [List.any_cons] at hh
            simp only [Bool.not_eq_true] at hA
            rw [hA] at hh
            simpa using hh
          have e4 : ∀ y ∈ A, (decide (y.1 = k) && !decide (y.1 = s)) = decide (y.1 = k) := fun y hy => by
            have : y.1 ≠ s := fun e => (List.nodup_cons.1 hk).1 (List.mem_map.2 ⟨y, hy, e.trans e3.symm⟩)
            simp [this]
          have e5 : (A.any fun a => !decide (a.1 = s) && decide (a.1 = k)) = A.any (fun a => decide (a.1 = k)) := by
            rw [Bool.eq_iff_iff, List.any_eq_true, List.any_eq_true]
            constructor
            · rintro ⟨y, hy, h⟩; exact ⟨y, hy, by simp at h; simpa using h.2⟩
            · rintro ⟨y, hy, h⟩; exact ⟨y, hy, by have := e4 y hy; rw [Bool.and_comm]; rw [this]; exact h⟩
          rw [List.any_cons, List.any_cons, e5]
          by_cases e : k = s
          · subst e
            have : (A.any fun a => decide (a.1 = k)) = false := by
              simp only [Bool.not_eq_true] at hA
              exact hA
            rw [this]; simp [e3]
          · have : p.1 ≠ k := fun h => e (h.symm.trans e3)
            simp [this, e]
    rw [this]
    cases hasA A k <;> cases decide (k = s) <;> rfl
  | false =>
    rw [if_neg (by simp)]
    by_cases hl : A.length = n
    · rw [if_pos hl, e1]
      have hne : A ≠ [] := by intro h; rw [h] at hl; simp at hl; omega
      obtain ⟨p, B, rfl⟩ := List.exists_cons_of_ne_nil hne
      obtain ⟨h1, h2⟩ := List.nodup_cons.1 hk
      have hp : hasA (p :: B) k = (decide (p.1 = k) || hasA B k) := rfl
      rw [if_neg (by simp), if_pos hl, hp]
      have hb : decide (p.1 = k) = true → hasA B k = false := fun e => by
        simp only [decide_eq_true_eq] at e
        unfold hasA
        rw [List.any_eq_false]
        intro y hy
        simp only [decide_eq_true_eq]
        exact fun e2 => h1 (List.mem_map.2 ⟨y, hy, e2.trans e.symm⟩)
      have hd : decide (k = p.1) = decide (p.1 = k) := decide_eq_decide.2 eq_comm
      show (hasA B k || decide (k = s)) = (decide (k = s) || ((decide (p.1 = k) || hasA B k) && !((!false && decide ((p :: B).length = n)) && decide (k = (((p :: B).head?).map (·.1)).getD ⟨#[]⟩))))
      rw [decide_eq_true hl]
      show (hasA B k || decide (k = s)) = (decide (k = s) || ((decide (p.1 = k) || hasA B k) && !(true && decide (k = p.1))))
      rw [hd]
      cases hpk : decide (p.1 = k) with
      | true => rw [hb hpk]; cases decide (k = s) <;> rfl
      | false => cases hasA B k <;> cases decide (k = s) <;> rfl
    · rw [if_neg hl, e1, decide_eq_false hl]
      cases hasA A k <;> cases decide (k = s) <;> rfl
end Go.Proofs.YtemlafbkkaloiaaGreat
namespace Go.Proofs.YtemlafbkkaloiaaGreat
open Go.RowKit
variable {w w' : World} {c : HotC} {s : HotV}
theorem HotCore.keep (k : HotCore w c s) {col : Nat → Nat} (hc : HotCol c s col) {S : Nat → Prop} (ho : Off S w w') (n : Nat) (hS : ∀ i, S i → col i = n) {i : Nat} (hi : i < w.heap.size) (hne : col i ≠ n) : w'.heap[i]? = w.heap[i]? :=
  ho.block i hi (fun h => hne (hS i h))
theorem HotCore.hbLt (k : HotCore w c s) : c.hb < w.heap.size := k.lt (Or.inr (Or.inr (Or.inr (Or.inl rfl))))
theorem HotCore.mwLt (k : HotCore w c s) : c.mw < w.heap.size := k.lt (Or.inr (Or.inr (Or.inl rfl)))
theorem HotCore.winLt (k : HotCore w c s) {x : HW} (hx : x ∈ s.WS) : x.p < w.heap.size ∧ x.m < w.heap.size := (k.wins x hx).1.lt
theorem HotCore.lruStep (k : HotCore w c s) {L' : List LNode} (h1 : Lru w' c.B c.M c.N L') (ho : Off (Lown c.B c.M s.L) w w') (hs : ∀ b, Lown c.B c.M L' b → Lown c.B c.M s.L b ∨ w.heap.size ≤ b) : HotCore w' c { s with L := L' } := by
  obtain ⟨col, hc⟩ := k.col
  have hk := fun {i : Nat} (hi : i < w.heap.size) (hne : col i ≠ 1) => k.keep hc ho 1 hc.lru hi hne
  refine ⟨(hk k.hbLt (by rw [hc.head]; omega)).trans k.head, k.ok.kept ho.size (fun g off e => hk (k.ilt g off e) (by rw [hc.items g off e]; omega)), k.fine, fun g off e => Nat.lt_of_lt_of_le (k.ilt g off e) ho.size, h1, ?_, fun x hx => ?_, ⟨k.sk.at_.kept (fun i hi => hk (k.sk.at_.lt hi) (by rw [hc.sk i hi]; omega)), k.sk.inv⟩, k.lsl, k.skf, k.l0, k.l1, k.keys, k.ps, k.s0, k.s1, fun i => if i < w.heap.size then col i else 1, ?_⟩
  · obtain ⟨F, n, h1, h2, h3⟩ := k.wmap
    exact ⟨F, n, h1.kept (hk k.mwLt (by rw [hc.map]; omega)), h2, h3⟩
  · obtain ⟨h1, h2⟩ := k.wins x hx
    have hx2 := hc.wins x hx
    exact ⟨h1.kept (hk h1.lt.1 (by rw [hx2.1]; omega)) (hk h1.lt.2 (by rw [hx2.2]; omega)), h2⟩
  · have old : ∀ {i : Nat}, i < w.heap.size → (if i < w.heap.size then col i else 1) = col i := fun hi => if_pos hi
    refine ⟨fun i hi => ?_, fun i hi => (old (k.sk.at_.lt hi)).trans (hc.sk i hi), (old k.mwLt).trans hc.map, (old k.hbLt).trans hc.head, fun g off e => (old (k.ilt g off e)).trans (hc.items g off e), fun x hx => ⟨(old (k.winLt hx).1).trans (hc.wins x hx).1, (old (k.winLt hx).2).trans (hc.wins x hx).2⟩⟩
    show (if i < w.heap.size then col i else _) = _
    split
    · rename_i hlt
      rcases hs i hi with h | h
      · exact hc.lru i h
      · omega
    · rfl
theorem HotCore.skStep (k : HotCore w c s) {ls : Int} {sn : List NoteS} {v' : Value} {bs' : List BkS} (h1 : SkInv w' c.sb c.sh (c.R.secs * 100000) ls sn v' bs') (hl : ls ≤ s.last) (hbl : bs'.length ≤ 1099511627777) (ho : Off (SkOwn c.sb s.v s.bs) w w') (hs : ∀ i, SkOwn c.sb v' bs' i → SkOwn c.sb s.v s.bs i ∨ w.heap.size ≤ i) : HotCore w' c { s with ls := ls, sn := sn, v := v', bs := bs' } := by
  obtain ⟨col, hc⟩ := k.col
  have hk := fun {i : Nat} (hi : i < w.heap.size) (hne : col i ≠ 2) => k.keep hc ho 2 hc.sk hi hne
  refine ⟨(hk k.hbLt (by rw [hc.head]; omega)).trans k.head, k.ok.kept ho.size (fun g off e => hk (k.ilt g off e) (by rw [hc.items g off e]; omega)), k.fine, fun g off e => Nat.lt_of_lt_of_le (k.ilt g off e) ho.size, k.lru.kept (fun i hi => hk (k.lru.lt hi) (by rw [hc.lru i hi]; omega)), ?_, fun x hx => ?_, h1, hl, hbl, k.l0, k.l1, k.keys, k.ps, k.s0, k.s1, fun i => if i < w.heap.size then col i else 2, ?_⟩
  · obtain ⟨F, n, h1, h2, h3⟩ := k.wmap
    exact ⟨F, n, h1.kept (hk k.mwLt (by rw [hc.map]; omega)), h2, h3⟩
  · obtain ⟨h1, h2⟩ := k.wins x hx
    have hx2 := hc.wins x hx
    exact ⟨h1.kept (hk h1.lt.1 (by rw [hx2.1]; omega)) (hk h1.lt.2 (by rw [hx2.2]; omega)), h2⟩
  · have old : ∀ {i : Nat}, i < w.heap.size → (if i < w.heap.size then col i else 2) = col i := fun hi => if_pos hi
    refine ⟨fun i hi => (old (k.lru.lt hi)).trans (hc.lru i hi), fun i hi => ?_, (old k.mwLt).trans hc.map, (old k.hbLt).trans hc.head, fun g off e => (old (k.ilt g off e)).trans (hc.items g off e), fun x hx => ⟨(old (k.winLt hx).1).trans (hc.wins x hx).1, (old (k.winLt hx).2).trans (hc.wins x hx).2⟩⟩
    show (if i < w.heap.size then col i else _) = _
    split
    · rename_i hlt
      rcases hs i hi with h | h
      · exact hc.sk i h
      · omega
    · rfl
theorem HotCore.winStep (k : HotCore w c s) {x : HW} (hx : x ∈ s.WS) {at_ : Int} {ns : List NoteW} (h1 : WinN w' x.p x.m c.W 10 at_ (x.notes ++ ns)) (hl : at_ ≤ s.last) (ho : Off (fun i => i = x.p ∨ i = x.m) w w') : HotCore w' c { s with WS := updW s.WS x.key at_ ns } := by
  obtain ⟨col, hc⟩ := k.col
  have hx2 := hc.wins x hx
  have hk := fun {i : Nat} (hi : i < w.heap.size) (hne : col i ≠ 6 + x.p) => k.keep hc ho (6 + x.p) (fun i h => by rcases h with rfl | rfl; exact hx2.1; exact hx2.2) hi hne
  refine ⟨(hk k.hbLt (by rw [hc.head]; omega)).trans k.head, k.ok.kept ho.size (fun g off e => hk (k.ilt g off e) (by rw [hc.items g off e]; omega)), k.fine, fun g off e => Nat.lt_of_lt_of_le (k.ilt g off e) ho.size, k.lru.kept (fun i hi => hk (k.lru.lt hi) (by rw [hc.lru i hi]; omega)), ?_, fun y hy => ?_, ⟨k.sk.at_.kept (fun i hi => hk (k.sk.at_.lt hi) (by rw [hc.sk i hi]; omega)), k.sk.inv⟩, k.lsl, k.skf, k.l0, k.l1, ?_, ?_, k.s0, k.s1, col, ?_⟩
  · obtain ⟨F, n, h1, h2, h3⟩ := k.wmap
    refine ⟨F, n, h1.kept (hk k.mwLt (by rw [hc.map]; omega)), ?_, fun q hq => ?_⟩
    · show n ≤ (updW s.WS x.key at_ ns).length
      unfold updW
      rw [List.length_map]; exact h2
    · rw [h3 q hq]
      show _ = (findW (updW s.WS x.key at_ ns) q).map _
      rw [findW_upd]
      cases findW s.WS q with
      | none => rfl
      | some y =>
        simp only [Option.map_some]
        split <;> rfl
  · obtain ⟨z, hz, e1, e2, e3, h⟩ := updW_mem hy
    rcases h with ⟨hk1, hk2, hk3⟩ | ⟨hne, rfl⟩
    · have : z = x := nodup_map_inj k.keys hz hx hk1
      subst this
      rw [e1, e2, hk2, hk3]
      exact ⟨h1, hl⟩
    · obtain ⟨g1, g2⟩ := k.wins y hz
      have hy2 := hc.wins y hz
      have hpp : y.p ≠ x.p := fun e => hne (by rw [nodup_map_inj k.ps hz hx e])
      exact ⟨g1.kept (hk g1.lt.1 (by rw [hy2.1]; omega)) (hk g1.lt.2 (by rw [hy2.2]; omega)), g2⟩
  · show ((updW s.WS x.key at_ ns).map _).Nodup
    rw [updW_keys]; exact k.keys
  · show ((updW s.WS x.key at_ ns).map _).Nodup
    rw [updW_ps]; exact k.ps
  · refine ⟨hc.lru, hc.sk, hc.map, hc.head, hc.items, fun y hy => ?_⟩
    obtain ⟨z, hz, e1, e2, _⟩ := updW_mem hy
    rw [e1, e2]
    exact hc.wins z hz
theorem HotCore.headStep (k : HotCore w c s) {at_ : Int} (h0 : s.last ≤ at_) (h1 : at_ ≤ 1152921504606846976) : HotCore (w.setCell ⟨c.hb, 8, none⟩ (.int .i64 at_)) c { s with last := at_ } ∧ Off (fun i => i = c.hb) w (w.setCell ⟨c.hb, 8, none⟩ (.int .i64 at_)) := by
  obtain ⟨col, hc⟩ := k.col
  have ho : Off (fun i => i = c.hb) w (w.setCell ⟨c.hb, 8, none⟩ (.int .i64 at_)) := Off.setCell (S := fun i => i = c.hb) (Off.refl _ w) (p := ⟨c.hb, 8, none⟩) (fun _ => rfl) _
  have hk := fun {i : Nat} (hi : i < w.heap.size) (hne : col i ≠ 4) => k.keep hc ho 4 (fun i h => by rw [h]; exact hc.head) hi hne
  have hl := k.l0
  refine ⟨⟨heap_setCell_same _ _ 8 _ _ _ k.head, k.ok.kept ho.size (fun g off e => hk (k.ilt g off e) (by rw [hc.items g off e]; omega)), k.fine, fun g off e => Nat.lt_of_lt_of_le (k.ilt g off e) ho.size, k.lru.kept (fun i hi => hk (k.lru.lt hi) (by rw [hc.lru i hi]; omega)), ?_, fun x hx => ?_, ⟨k.sk.at_.kept (fun i hi => hk (k.sk.at_.lt hi) (by rw [hc.sk i hi]; omega)), k.sk.inv⟩, Int.le_trans k.lsl h0, k.skf, by show 0 ≤ at_; omega, h1, k.keys, k.ps, k.s0, k.s1, col, hc.lru, hc.sk, hc.map, hc.head, hc.items, hc.wins⟩, ho⟩
  · obtain ⟨F, n, h1, h2, h3⟩ := k.wmap
    exact ⟨F, n, h1.kept (hk k.mwLt (by rw [hc.map]; omega)), h2, h3⟩
  · obtain ⟨h1, h2⟩ := k.wins x hx
    have hx2 := hc.wins x hx
    exact ⟨h1.kept (hk h1.lt.1 (by rw [hx2.1]; omega)) (hk h1.lt.2 (by rw [hx2.2]; omega)), Int.le_trans h2 h0⟩
theorem Off.ofGrown {w w' : World} {b : Nat} (h : w.grownBy w' (some b)) : Off (fun i => i = b) w w' := ⟨h.os, h.tape, h.output, h.size, fun i hi hn => h.block i hi (fun e => hn (by injection e))⟩
theorem HotCore.mapDel (k : HotCore w c s) {g : ByteArray} (hg : g.size ≤ maxLen) (hin : (findW s.WS g).isSome = true) : ∃ w', (∀ ty, (Builtin.delete_ #[61, 9] ty #[.map (some c.mw), .string g]).run Tryz.prog w = .ok (.tuple #[]) w') ∧ HotCore w' c { s with WS := delW s.WS g } ∧ Off (fun i => i = c.mw) w w' := by
  obtain ⟨col, hc⟩ := k.col
  obtain ⟨F, n, m1, m2, m3⟩ := k.wmap
  obtain ⟨w', hrun, m4, hgr⟩ := m1.delete strKeyed under_mapW (skeyOf hg)
  have ho := Off.ofGrown hgr
  have hk := fun {i : Nat} (hi : i < w.heap.size) (hne : col i ≠ 3) => k.keep hc ho 3 (fun i h => by rw [h]; exact hc.map) hi hne
  have hsub : ∀ x, x ∈ delW s.WS g → x ∈ s.WS := fun x hx => (List.mem_filter.1 hx).1
  refine ⟨w', hrun, ⟨(hk k.hbLt (by rw [hc.head]; omega)).trans k.head, k.ok.kept ho.size (fun g off e => hk (k.ilt g off e) (by rw [hc.items g off e]; omega)), k.fine, fun g off e => Nat.lt_of_lt_of_le (k.ilt g off e) ho.size, k.lru.kept (fun i hi => hk (k.lru.lt hi) (by rw [hc.lru i hi]; omega)), ⟨_, _, m4, ?_, fun q hq => ?_⟩, fun x hx => ?_, ⟨k.sk.at_.kept (fun i hi => hk (k.sk.at_.lt hi) (by rw [hc.sk i hi]; omega)), k.sk.inv⟩, k.lsl, k.skf, k.l0, k.l1, k.keys.sublist (List.Sublist.map _ List.filter_sublist), k.ps.sublist (List.Sublist.map _ List.filter_sublist), k.s0, k.s1, col, hc.lru, hc.sk, hc.map, hc.head, hc.items, fun x hx => hc.wins x (hsub x hx)⟩, ho⟩
  · show _ ≤ (delW s.WS g).length
    have hl := delW_len k.keys hin
    rw [m3 g hg]
    cases hf : findW s.WS g with
    | none => rw [hf] at hin; cases hin
    | some x => simp only [Option.map_some, Option.isSome_some, if_true]; omega
  · show _ = (findW (delW s.WS g) q).map _
    rw [findW_del]
    by_cases e : q = g
    · subst e; rw [updV_same, if_pos rfl]; rfl
    · rw [updV_other _ _ (fun h => e (by injection h)), if_neg e, m3 q hq]
  · obtain ⟨h1, h2⟩ := k.wins x (hsub x hx)
    have hx2 := hc.wins x (hsub x hx)
    exact ⟨h1.kept (hk h1.lt.1 (by rw [hx2.1]; omega)) (hk h1.lt.2 (by rw [hx2.2]; omega)), h2⟩
theorem HotCore.mapPut (k : HotCore w c s) {x : HW} (hg : x.key.size ≤ maxLen) (hno : findW s.WS x.key = none) (hw : WinN w x.p x.m c.W 10 x.last x.notes) (hl : x.last ≤ s.last) (hown : ∀ i, HOwn c s i → i ≠ x.p ∧ i ≠ x.m) (hit : ∀ g off, c.R.ia = some ⟨g, off, none⟩ → g ≠ x.p ∧ g ≠ x.m) (hfew : s.WS.length < maxLen) :
    ∃ w', (Instr.mapUpdate 61 (.map (some c.mw)) (.string x.key) (.pointer (some ⟨x.p, 0, none⟩))).run Tryz.prog w = .ok () w' ∧ HotCore w' c { s with WS := s.WS ++ [x] } ∧ Off (fun i => i = c.mw) w w' := by
  obtain ⟨col, hc⟩ := k.col
  obtain ⟨F, n, m1, m2, m3⟩ := k.wmap
  obtain ⟨w', hrun, m4, hgr, _⟩ := m1.update strKeyed under_mapW (Nat.lt_of_le_of_lt m2 hfew) (skeyOf hg) (.pointer (some ⟨x.p, 0, none⟩))
  have ho := Off.ofGrown hgr
  have hk := fun {i : Nat} (hi : i < w.heap.size) (hne : col i ≠ 3) => k.keep hc ho 3 (fun i h => by rw [h]; exact hc.map) hi hne
  have hmw := hown c.mw (Or.inr (Or.inr (Or.inl rfl)))
  refine ⟨w', hrun, ⟨(hk k.hbLt (by rw [hc.head]; omega)).trans k.head, k.ok.kept ho.size (fun g off e => hk (k.ilt g off e) (by rw [hc.items g off e]; omega)), k.fine, fun g off e => Nat.lt_of_lt_of_le (k.ilt g off e) ho.size, k.lru.kept (fun i hi => hk (k.lru.lt hi) (by rw [hc.lru i hi]; omega)), ⟨_, _, m4, ?_, fun q hq => ?_⟩, fun y hy => ?_, ⟨k.sk.at_.kept (fun i hi => hk (k.sk.at_.lt hi) (by rw [hc.sk i hi]; omega)), k.sk.inv⟩, k.lsl, k.skf, k.l0, k.l1, ?_, ?_, k.s0, k.s1, fun i => if i = x.p ∨ i = x.m then 6 + x.p else col i, ?_⟩, ho⟩
  · show _ ≤ (s.WS ++ [x]).length
    rw [List.length_append, List.length_singleton]
    split <;> omega
  · show _ = (findW (s.WS ++ [x]) q).map _
    rw [findW_snoc]
    by_cases e : x.key = q
    · subst e; rw [updV_same, hno, if_pos rfl]; rfl
    · rw [updV_other _ _ (fun h => e (Value.string.inj h).symm), if_neg e, m3 q hq]
      cases findW s.WS q <;> rfl
  · rcases List.mem_append.1 hy with hy | hy
    · obtain ⟨h1, h2⟩ := k.wins y hy
      have hx2 := hc.wins y hy
      exact ⟨h1.kept (hk h1.lt.1 (by rw [hx2.1]; omega)) (hk h1.lt.2 (by rw [hx2.2]; omega)), h2⟩
    · obtain rfl := List.mem_singleton.1 hy
      exact ⟨hw.kept (ho.block _ hw.lt.1 (fun e => hmw.1 e.symm)) (ho.block _ hw.lt.2 (fun e => hmw.2 e.symm)), hl⟩
  · show ((s.WS ++ [x]).map _).Nodup
    rw [List.map_append]
    exact List.nodup_append.2 ⟨k.keys, by simp, by intro a ha b hb; simp at hb; subst hb; exact fun e => findW_none.1 hno (e ▸ ha)⟩
  · show ((s.WS ++ [x]).map _).Nodup
    rw [List.map_append]
    refine List.nodup_append.2 ⟨k.ps, by simp, ?_⟩
    intro a ha b hb
    simp at hb
    subst hb
    obtain ⟨y, hy, rfl⟩ := List.mem_map.1 ha
    exact (hown y.p (Or.inr (Or.inr (Or.inr (Or.inr ⟨y, hy, Or.inl rfl⟩))))).1
  · have old : ∀ {i : Nat}, i ≠ x.p → i ≠ x.m → (if i = x.p ∨ i = x.m then 6 + x.p else col i) = col i := fun h1 h2 => if_neg (by rintro (h | h); exact h1 h; exact h2 h)
    have oo : ∀ {i : Nat}, HOwn c s i → (if i = x.p ∨ i = x.m then 6 + x.p else col i) = col i := fun h => old (hown _ h).1 (hown _ h).2
    refine ⟨fun i hi => (oo (Or.inl hi)).trans (hc.lru i hi), fun i hi => (oo (Or.inr (Or.inl hi))).trans (hc.sk i hi), (oo (Or.inr (Or.inr (Or.inl rfl)))).trans hc.map, (oo (Or.inr (Or.inr (Or.inr (Or.inl rfl))))).trans hc.head, fun g off e => (old (hit g off e).1 (hit g off e).2).trans (hc.items g off e), fun y hy => ?_⟩
    rcases List.mem_append.1 hy with hy | hy
    · exact ⟨(oo (Or.inr (Or.inr (Or.inr (Or.inr ⟨y, hy, Or.inl rfl⟩))))).trans (hc.wins y hy).1, (oo (Or.inr (Or.inr (Or.inr (Or.inr ⟨y, hy, Or.inr rfl⟩))))).trans (hc.wins y hy).2⟩
    · obtain rfl := List.mem_singleton.1 hy
      exact ⟨if_pos (Or.inl rfl), if_pos (Or.inr rfl)⟩
end Go.Proofs.YtemlafbkkaloiaaGreat
namespace Go.Proofs.YtemlafbkkaloiaaGreat
open Go.RowKit
structure HStep (w w' : World) (c : HotC) (s s' : HotV) : Prop where
  core : HotCore w' c s'
  off : Off (HOwn c s) w w'
  own : ∀ i, HOwn c s' i → HOwn c s i ∨ w.heap.size ≤ i
theorem HStep.trans {a b d : World} {c : HotC} {s t u : HotV} (h : HStep a b c s t) (k : HStep b d c t u) : HStep a d c s u := by
  have hz := h.off.size
  refine ⟨k.core, h.off.trans k.off (fun i hi hs => ?_), fun i hi => ?_⟩
  · rcases h.own i hs with h1 | h1
    · exact h1
    · omega
  · rcases k.own i hi with h1 | h1
    · exact h.own i h1
    · exact Or.inr (by omega)
theorem HStep.refl {w : World} {c : HotC} {s : HotV} (k : HotCore w c s) : HStep w w c s s := ⟨k, Off.refl _ _, fun i hi => Or.inl hi⟩
theorem HStep.below {w w' : World} {c : HotC} {s : HotV} (k : HotCore w c s) (hb : Below w.heap.size w w') : HStep w w' c s s := ⟨k.below hb, Off.ofBelow hb, fun i hi => Or.inl hi⟩
variable {w w' : World} {c : HotC} {s : HotV}
theorem HStep.lru (k : HotCore w c s) {L' : List LNode} (h1 : Lru w' c.B c.M c.N L') (ho : Off (Lown c.B c.M s.L) w w') (hs : ∀ b, Lown c.B c.M L' b → Lown c.B c.M s.L b ∨ w.heap.size ≤ b) : HStep w w' c s { s with L := L' } := by
  refine ⟨k.lruStep h1 ho hs, ho.mono (fun i _ h => Or.inl h), fun i hi => ?_⟩
  rcases hi with h | h | h | h | h
  · rcases hs i h with h | h
    · exact Or.inl (Or.inl h)
    · exact Or.inr h
  · exact Or.inl (Or.inr (Or.inl h))
  · exact Or.inl (Or.inr (Or.inr (Or.inl h)))
  · exact Or.inl (Or.inr (Or.inr (Or.inr (Or.inl h))))
  · exact Or.inl (Or.inr (Or.inr (Or.inr (Or.inr h))))
theorem HStep.sk (k : HotCore w c s) {ls : Int} {sn : List NoteS} {v' : Value} {bs' : List BkS} (h1 : SkInv w' c.sb c.sh (c.R.secs * 100000) ls sn v' bs') (hl : ls ≤ s.last) (hbl : bs'.length ≤ 1099511627777) (ho : Off (SkOwn c.sb s.v s.bs) w w') (hs : ∀ i, SkOwn c.sb v' bs' i → SkOwn c.sb s.v s.bs i ∨ w.heap.size ≤ i) : HStep w w' c s { s with ls := ls, sn := sn, v := v', bs := bs' } := by
  refine ⟨k.skStep h1 hl hbl ho hs, ho.mono (fun i _ h => Or.inr (Or.inl h)), fun i hi => ?_⟩
  rcases hi with h | h | h | h | h
  · exact Or.inl (Or.inl h)
  · rcases hs i h with h | h
    · exact Or.inl (Or.inr (Or.inl h))
    · exact Or.inr h
  · exact Or.inl (Or.inr (Or.inr (Or.inl h)))
  · exact Or.inl (Or.inr (Or.inr (Or.inr (Or.inl h))))
  · exact Or.inl (Or.inr (Or.inr (Or.inr (Or.inr h))))
theorem HStep.win (k : HotCore w c s) {x : HW} (hx : x ∈ s.WS) {at_ : Int} {ns : List NoteW} (h1 : WinN w' x.p x.m c.W 10 at_ (x.notes ++ ns)) (hl : at_ ≤ s.last) (ho : Off (fun i => i = x.p ∨ i = x.m) w w') : HStep w w' c s { s with WS := updW s.WS x.key at_ ns } := by
  refine ⟨k.winStep hx h1 hl ho, ho.mono (fun i _ h => Or.inr (Or.inr (Or.inr (Or.inr ⟨x, hx, h⟩)))), fun i hi => Or.inl ?_⟩
  rcases hi with h | h | h | h | ⟨y, hy, h⟩
  · exact Or.inl h
  · exact Or.inr (Or.inl h)
  · exact Or.inr (Or.inr (Or.inl h))
  · exact Or.inr (Or.inr (Or.inr (Or.inl h)))
  · obtain ⟨z, hz, e1, e2, _⟩ := updW_mem hy
    rw [e1, e2] at h
    exact Or.inr (Or.inr (Or.inr (Or.inr ⟨z, hz, h⟩)))
theorem HStep.head (k : HotCore w c s) {at_ : Int} (h0 : s.last ≤ at_) (h1 : at_ ≤ 1152921504606846976) : HStep w (w.setCell ⟨c.hb, 8, none⟩ (.int .i64 at_)) c s { s with last := at_ } := by
  obtain ⟨h2, h3⟩ := k.headStep h0 h1
  exact ⟨h2, h3.mono (fun i _ h => Or.inr (Or.inr (Or.inr (Or.inl h)))), fun i hi => Or.inl hi⟩
theorem HStep.del (k : HotCore w c s) {g : ByteArray} (hg : g.size ≤ maxLen) (hin : (findW s.WS g).isSome = true) : ∃ w', (∀ ty, (Builtin.delete_ #[61, 9] ty #[.map (some c.mw), .string g]).run Tryz.prog w = .ok (.tuple #[]) w') ∧ HStep w w' c s { s with WS := delW s.WS g } := by
  obtain ⟨w', hr, h1, h2⟩ := k.mapDel hg hin
  refine ⟨w', hr, h1, h2.mono (fun i _ h => Or.inr (Or.inr (Or.inl h))), fun i hi => Or.inl ?_⟩
  rcases hi with h | h | h | h | ⟨y, hy, h⟩
  · exact Or.inl h
  · exact Or.inr (Or.inl h)
  · exact Or.inr (Or.inr (Or.inl h))
  · exact Or.inr (Or.inr (Or.inr (Or.inl h)))
  · exact Or.inr (Or.inr (Or.inr (Or.inr ⟨y, (List.mem_filter.1 hy).1, h⟩)))
def HotV.V (s : HotV) (k : ByteArray) : Option (List NoteW) := (findW s.WS k).map (·.notes)
def passH (n : Int) : CntS := ⟨n, 0, 0, 0, 0, 0⟩
theorem passH_right {n : Int} (h0 : 0 ≤ n) (h1 : n ≤ 4611686018427387904) : RightC (passH n) := by constructor <;> simp [passH] <;> omega
theorem cts_oneH {w : World} (x : CntS) : CtsAt (w.alloc (ctO x 92)) (some ⟨w.heap.size, 0, none⟩) [x] := by
  have hn : (w.alloc (ctO x 92)).heap[w.heap.size]? = some (ctO x 92) := (get_allocW w _ _).trans (if_pos rfl)
  refine Or.inr ⟨w.heap.size, 0, rfl, by simp, fun j y hy => ?_⟩
  obtain ⟨hj, hy2⟩ := List.getElem?_eq_some_iff.1 hy
  have : j = 0 := by simp at hj; omega
  subst this
  obtain rfl : x = y := by simpa using hy2
  simpa using (ct_cells hn).1
structure KeepPost (w : World) (c : HotC) (s : HotV) (at_ : Int) (key : ByteArray) (w' : World) (s' : HotV) : Prop where
  step : HStep w w' c s s'
  hot : HotAt w' c s'
  rows : pr s'.L = if hasA (pr s.L) key then getA (pr s.L) key else putA c.N (pr s.L) key 0
  vals : ∀ k, s'.V k = if hasA (pr s.L) key then s.V k else if k = key then some (newW at_ [passH (usedH c s at_ key)]) else if wentA c.N (pr s.L) key && decide (k = goneA c.N (pr s.L) key) then none else s.V k
  last : s'.last = s.last
  ls : s'.ls = s.ls
  sn : s'.sn = s.sn
theorem pr_keys (L : List LNode) : (pr L).map (·.1) = L.map (·.k) := by simp [pr]
theorem ws_le {WS : List HW} {A : List (ByteArray × Int)} (hn : (WS.map (·.key)).Nodup) (h : ∀ k, (findW WS k).isSome = true → hasA A k = true) : WS.length ≤ A.length := by
  have := nodup_le (WS.map (·.key)) (A.map (·.1)) hn (fun k hk => by
    have h1 : (findW WS k).isSome = true := by
      cases hf : findW WS k with
      | none => exact absurd hk (findW_none.1 hf)
      | some x => rfl
    have h2 := h k h1
    unfold hasA at h2
    rw [List.any_eq_true] at h2
    obtain ⟨p, hp, e⟩ := h2
    exact List.mem_map.2 ⟨p, hp, by simpa using e⟩)
  simpa using this
theorem Lru.keysA {w : World} {m mp most : Nat} {L : List LNode} (h : Lru w m mp most L) : ((pr L).map (·.1)).Nodup := by rw [pr_keys]; exact h.body.keys
theorem gone_in {n : Nat} {A : List (ByteArray × Int)} {s : ByteArray} (hn : 1 ≤ n) (h : wentA n A s = true) : hasA A (goneA n A s) = true := by
  unfold wentA at h
  simp only [Bool.and_eq_true, Bool.not_eq_true', decide_eq_true_eq] at h
  obtain ⟨h1, h2⟩ := h
  unfold goneA
  rw [h1, if_neg (by simp), if_pos h2]
  have hne : A ≠ [] := by intro e; rw [e] at h2; simp at h2; omega
  obtain ⟨p, B, rfl⟩ := List.exists_cons_of_ne_nil hne
  unfold hasA
  rw [List.any_cons]
  simp
theorem gone_size {w : World} {m mp most : Nat} {L : List LNode} (h : Lru w m mp most L) {s : ByteArray} (hw : wentA most (pr L) s = true) : (goneA most (pr L) s).size ≤ maxLen := by
  have := gone_in h.big.1 hw
  unfold hasA at this
  rw [List.any_eq_true] at this
  obtain ⟨p, hp, e⟩ := this
  obtain ⟨x, hx, rfl⟩ := List.mem_map.1 hp
  simp only [decide_eq_true_eq] at e
  rw [← e]
  exact h.body.small x hx
theorem KeepPost.old (k : HotAt w c s) {L' : List LNode} (at_ : Int) {key : ByteArray} (hh : hasA (pr s.L) key = true) (h1 : Lru w' c.B c.M c.N L') (hp : pr L' = getA (pr s.L) key) (ho : Off (Lown c.B c.M s.L) w w') (hs : ∀ b, Lown c.B c.M L' b → Lown c.B c.M s.L b) : KeepPost w c s at_ key w' { s with L := L' } := by
  have hst := HStep.lru k.toHotCore h1 ho (fun b hb => Or.inl (hs b hb))
  have hA : ∀ q, hasA (pr L') q = hasA (pr s.L) q := fun q => by
    rw [hp]
    unfold getA
    rw [hh, if_pos rfl]
    have := hasA_put (n := c.N) k.lru.big.1 k.lru.keysA key (valA (pr s.L) key) q
    unfold putA wentA at this
    rw [hh, if_pos rfl] at this
    rw [this]
    by_cases e : q = key
    · subst e; simp [hh]
    · simp [e]
  refine ⟨hst, ⟨hst.core, fun q => (hA q).trans (k.same q), k.few⟩, ?_, fun q => ?_, rfl, rfl, rfl⟩
  · rw [hh, if_pos rfl]; exact hp
  · rw [hh, if_pos rfl]; rfl
end Go.Proofs.YtemlafbkkaloiaaGreat
namespace Go.Proofs.YtemlafbkkaloiaaGreat
open Go.RowKit
theorem HStep.put {w w6 w7 : World} {c : HotC} {s s6 : HotV} {x : HW} (h : HStep w w6 c s s6) (h7 : HotCore w7 c { s6 with WS := s6.WS ++ [x] }) (ho : Off (fun i => i = c.mw) w6 w7) (hp : w.heap.size ≤ x.p) (hm : w.heap.size ≤ x.m) : HStep w w7 c s { s6 with WS := s6.WS ++ [x] } := by
  refine ⟨h7, h.off.trans ho (fun i hi hs => ?_), fun i hi => ?_⟩
  · rcases h.own i (Or.inr (Or.inr (Or.inl hs))) with h1 | h1
    · exact h1
    · omega
  · rcases hi with h1 | h1 | h1 | h1 | ⟨y, hy, h1⟩
    · exact h.own i (Or.inl h1)
    · exact h.own i (Or.inr (Or.inl h1))
    · exact h.own i (Or.inr (Or.inr (Or.inl h1)))
    · exact h.own i (Or.inr (Or.inr (Or.inr (Or.inl h1))))
    · rcases List.mem_append.1 hy with hy | hy
      · exact h.own i (Or.inr (Or.inr (Or.inr (Or.inr ⟨y, hy, h1⟩))))
      · obtain rfl := List.mem_singleton.1 hy
        rcases h1 with rfl | rfl
        · exact Or.inr hp
        · exact Or.inr hm
theorem KeepPost.new {w w5 w6 w7 : World} {c : HotC} {s : HotV} (k : HotAt w c s) {at_ : Int} {key : ByteArray} (hh : hasA (pr s.L) key = false) {L5 : List LNode} {WS6 : List HW} {x : HW}
    (h7 : HStep w w7 c s { s with L := L5, WS := WS6 ++ [x] }) (hp : pr L5 = putA c.N (pr s.L) key 0) (hx : x.key = key) (hn : x.notes = newW at_ [passH (usedH c s at_ key)])
    (hWS : WS6 = if wentA c.N (pr s.L) key then delW s.WS (goneA c.N (pr s.L) key) else s.WS) : KeepPost w c s at_ key w7 { s with L := L5, WS := WS6 ++ [x] } := by
  have hf : ∀ q, findW WS6 q = if wentA c.N (pr s.L) key && decide (q = goneA c.N (pr s.L) key) then none else findW s.WS q := fun q => by
    rw [hWS]
    cases wentA c.N (pr s.L) key
    · simp
    · rw [if_pos rfl, findW_del]; simp
  have hnk : findW WS6 key = none := by
    rw [hf]
    have : findW s.WS key = none := by
      have := k.same key
      rw [hh] at this
      cases hq : findW s.WS key with
      | none => rfl
      | some y => rw [hq] at this; cases this
    rw [this]; simp
  have hsame : ∀ q, hasA (pr L5) q = (findW (WS6 ++ [x]) q).isSome := fun q => by
    rw [hp, hasA_put k.lru.big.1 k.lru.keysA, findW_snoc, hx, hf, k.same q]
    by_cases e : q = key
    · subst e
      simp
    · have e' : ¬ key = q := fun h => e h.symm
      rw [if_neg e', decide_eq_false e]
      cases hw : (wentA c.N (pr s.L) key && decide (q = goneA c.N (pr s.L) key)) with
      | true => simp
      | false => cases findW s.WS q <;> simp
  refine ⟨h7, ⟨h7.core, hsame, ?_⟩, ?_, fun q => ?_, rfl, rfl, rfl⟩
  · have h1 := ws_le h7.core.keys (fun q hq => by
      have := hsame q
      rw [show findW { s with L := L5, WS := WS6 ++ [x] : HotV }.WS q = findW (WS6 ++ [x]) q from rfl] at hq
      rw [this]; exact hq)
    have h2 := h7.core.lru.cap
    have h3 := h7.core.lru.big
    rw [show (pr L5).length = L5.length from pr_len L5] at h1
    exact Nat.le_trans h1 (Nat.le_trans h2 h3.2)
  · rw [hh, if_neg (by simp)]; exact hp
  · rw [hh, if_neg (by simp)]
    show (findW (WS6 ++ [x]) q).map (·.notes) = _
    rw [findW_snoc, hx]
    by_cases e : q = key
    · subst e
      rw [hnk, if_pos rfl, if_pos rfl]
      show some x.notes = _
      rw [hn]
    · rw [if_neg (fun h => e h.symm), if_neg e, hf]
      cases (wentA c.N (pr s.L) key && decide (q = goneA c.N (pr s.L) key)) with
      | true => rfl
      | false => unfold HotV.V; cases findW s.WS q <;> rfl
set_option maxHeartbeats 12800000 in
set_option maxRecDepth 100000 in
theorem hkeep_any {w : World} {c : HotC} {s : HotV} (k : HotAt w c s) (at_ : Int) (hat : s.last = at_) (key : ByteArray) (hk : key.size ≤ maxLen) :
    Calls Tryz.prog 41 #[.pointer (some ⟨c.hb, 0, none⟩), .int .i64 at_, .string key] w fun e w' => ∃ s', e = .returned (.tuple #[]) ∧ KeepPost w c s at_ key w' s' := by
  have K := Lib.hid k
  have HG := Lib.hid (lget_any k.lru hk)
  obtain ⟨_, _, _, _, _, c5, _, _, _⟩ := k.cells
  have ha0 : 0 ≤ at_ := by rw [← hat]; exact k.l0
  have ha1 : at_ ≤ 1152921504606846976 := by rw [← hat]; exact k.l1
  have HAT := Lib.hid hat
  clear k hat
  go_enter Tryz.func41, Tryz.ntmps41
  go_wp2_with (fail)
  refine HG.out.mono ?_
  rintro e w1 ⟨L1, rfl, hl1, p1, o1, s1⟩
  clear c5 HG
  cases hh : hasA (pr s.L) key with
  | true =>
    have HP := Lib.hid (KeepPost.old K.out at_ hh hl1 p1 o1 s1)
    clear hl1 p1 o1 s1 hh
    go_wp2_with (fail)
    (try simp only [Exit.inBlock, Exit.then])
    refine bodyPost_ret (results_none rfl _ _ _) rfl ?_
    exact ⟨_, rfl, HP.out⟩
  | false =>
    have p1 : pr L1 = pr s.L := by rw [p1]; unfold getA; rw [hh, if_neg (by simp)]
    have HS1 := Lib.hid (HStep.lru K.out.toHotCore hl1 o1 (fun b hb => Or.inl (s1 b hb)))
    have HP1 := Lib.hid p1
    have HH := Lib.hid hh
    have HL1 := Lib.hid hl1
    obtain ⟨c0, c1, c2, c3, c4, c5, c6, _, _⟩ := HS1.out.core.cells
    obtain ⟨_, ⟨r1, r2⟩, _⟩ := hot_parts K.out.fine
    have HWD : Hid (Calls Tryz.prog 24 #[.agg #[.string c.R.res, .int .i64 c.R.idx, .int .i64 c.R.cnt, .int .i64 c.R.secs, .slice c.R.ia c.R.il c.R.ic]] w1 fun e w' => e = .returned (.int .i64 (c.R.secs * 1000000)) ∧ Below w1.heap.size w1 w') := hwidth_any c.R r1 r2 w1
    have HSH := Lib.hid K.out.shW
    clear hl1 p1 o1 s1 hh r1 r2
    go_wp2_with (fail)
    refine HWD.out.mono ?_
    rintro e w2 ⟨rfl, h2⟩
    have HNW := Lib.hid (show Calls Tryz.prog 71 #[.int .i64 (c.R.secs * 1000000), .int .i64 10] w2 _ from wnew_any w2 HSH.out)
    have HB2 := Lib.hid h2
    have hz2 := h2.size
    clear HWD h2 c0 c1 c2 c3 c4 c5 c6
    go_wp2_with (fail)
    refine HNW.out.mono ?_
    rintro e w3 ⟨rfl, hw3⟩
    have HW3 := winN_made w2 HSH.out
    have hb3 : Below w2.heap.size w2 ((w2.alloc (.map #[] 0)).alloc (winObj c.W 10 w2.heap.size)) := ((Below.refl _ _).alloc (Nat.le_refl _) _).alloc (by simp) _
    have hw3' : w3 = (w2.alloc (.map #[] 0)).alloc (winObj c.W 10 w2.heap.size) := hw3
    rw [← hw3'] at HW3 hb3
    have HB3 := Lib.hid (HB2.out.trans (hb3.mono hz2))
    have hz3 : w3.heap.size = w2.heap.size + 2 := by rw [hw3']; simp
    have HW3 := Lib.hid HW3
    have K3 := Lib.hid (HS1.out.core.below HB3.out)
    have HZ3 := Lib.hid hz3
    generalize hp : w2.heap.size + 1 = p at *
    generalize hm : w2.heap.size = m at *
    have HPM := Lib.hid (And.intro hp (And.intro hz2 hz3))
    clear hw3 hw3' hz2 hz3 hb3 HNW HB2 HZ3 hp hm
    have HUS := Lib.hid (hused_any K3.out at_ (by show s.last ≤ at_; rw [HAT.out]; exact Int.le_refl _) ha1 key hk)
    rw [show usedH c { s with L := L1 } at_ key = usedH c s at_ key from rfl] at HUS
    obtain ⟨u0, u1⟩ := K.out.usedBd at_ key
    generalize hU : usedH c s at_ key = U at *
    have HU := Lib.hid hU
    clear hU
    go_wp2_with (fail)
    refine HUS.out.mono ?_
    rintro e w4 ⟨rfl, h4⟩
    have hal : Below w4.heap.size w4 (w4.alloc (ctO (passH U) 92)) := (Below.refl _ _).alloc (Nat.le_refl _) _
    have hz4 := h4.size
    have hpm := HPM.out
    have HAD := wAddN_any (HW3.out.below (h4.trans (hal.mono hz4))) at_ (by unfold lookW; rw [if_neg (by omega), if_neg (by omega)]) (some ⟨w4.heap.size, 0, none⟩) 1 1 [passH U] rfl (by omega) (by simp) (cts_oneH _) (by intro x hx; obtain rfl := List.mem_singleton.1 hx; exact passH_right u0 u1) (fun g off e => by injection e with e; injection e with e; omega)
    have HAD := Lib.hid HAD
    have HB4 := Lib.hid (show Below w1.heap.size w1 (w4.alloc (ctO (passH U) 92)) from HB3.out.trans ((h4.mono HB3.out.size).trans (hal.mono (Nat.le_trans HB3.out.size hz4))))
    have HZ4 := Lib.hid hz4
    clear HUS h4 hal hpm hz4
    unfold ctO passH at HAD HB4
    dsimp only at HAD HB4
    go_wp2_with (fail)
    refine HAD.out.mono ?_
    rintro e w5 ⟨rfl, hw5, o5⟩
    have hpm := HPM.out
    have hb5 : Below w1.heap.size w1 w5 := HB4.out.trans (o5.below (B := w1.heap.size) HB4.out.size (fun i hi h => by omega))
    have hz5 : w4.heap.size < w5.heap.size := by have := o5.size; simp at this; omega
    have hz4 := HZ4.out
    have HS5 := Lib.hid (HS1.out.trans (HStep.below HS1.out.core hb5))
    obtain ⟨_, _, _, _, _, c5, c6, _, _⟩ := HS5.out.core.cells
    have HW5 := Lib.hid hw5
    have HPT := Lib.hid (lput_any HS5.out.core.lru hk 0)
    have HZ5 := Lib.hid (show p < w5.heap.size ∧ m < w5.heap.size ∧ w.heap.size ≤ p ∧ w.heap.size ≤ m ∧ w.heap.size ≤ w1.heap.size from ⟨by omega, by omega, by have := HS1.out.off.size; omega, by have := HS1.out.off.size; omega, HS1.out.off.size⟩)
    have HPL := Lib.hid (show w1.heap.size ≤ p ∧ w1.heap.size ≤ m from ⟨by omega, by omega⟩)
    clear HAD HB4 hpm hb5 hz5 o5 hw5 hz4 HB3 HPM HZ4 HW3 K3
    go_wp2_with (fail)
    refine HPT.out.mono ?_
    rintro e w6 ⟨L6, rfl, hl6, p6, o6, s6⟩
    rw [show pr ({ s with L := L1 } : HotV).L = pr s.L from HP1.out] at p6 ⊢
    have HS6 := HStep.lru HS5.out.core hl6 o6 s6
    have hown6 : ∀ i, HOwn c { s with L := L6 } i → i ≠ p ∧ i ≠ m := fun i hi => by
      have h5 := HZ5.out
      have hL := HPL.out
      rcases HS6.own i hi with h | h
      · rcases h with h | h
        · have := HL1.out.lt h; omega
        · have := HS1.out.core.lt (Or.inr h); omega
      · omega
    have hw6 := HW5.out.kept (o6.block p HZ5.out.1 (fun h => by have := HL1.out.lt h; have := HPL.out; omega)) (o6.block m HZ5.out.2.1 (fun h => by have := HL1.out.lt h; have := HPL.out; omega))
    have hit : ∀ g off, c.R.ia = some ⟨g, off, none⟩ → g ≠ p ∧ g ≠ m := fun g off e => by have := K.out.ilt g off e; have := HZ5.out; omega
    have hno : findW s.WS key = none := by
      have := K.out.same key
      rw [HH.out] at this
      cases hq : findW s.WS key with
      | none => rfl
      | some y => rw [hq] at this; cases this
    have HS6' := Lib.hid (HS5.out.trans HS6)
    have HO6 := Lib.hid hown6
    have HW6 := Lib.hid hw6
    have HIT := Lib.hid hit
    have HNO := Lib.hid hno
    have HP6 := Lib.hid p6
    have hfew := K.out.few
    have HX := Lib.hid (show newW at_ [passH U] = newW at_ [passH (usedH c s at_ key)] from by rw [HU.out])
    have HS6c := Lib.hid HS6
    obtain ⟨_, _, _, _, _, _, c6, _, _⟩ := HS6.core.cells
    cases hwent : wentA c.N (pr s.L) key with
    | false =>
      obtain ⟨w7, hrun, hc7, ho7⟩ := HS6.core.mapPut (x := ⟨key, p, m, at_, newW at_ [passH U]⟩) hk hno hw6 (by show at_ ≤ s.last; rw [HAT.out]; exact Int.le_refl _) hown6 hit (by show s.WS.length < maxLen; unfold maxLen; omega)
      have H7 := HStep.put HS6'.out hc7 ho7 HZ5.out.2.2.1 HZ5.out.2.2.2.1
      have HP := Lib.hid (KeepPost.new (w5 := w5) (w6 := w6) K.out HH.out H7 p6 rfl HX.out (by rw [hwent, if_neg (by simp)]))
      generalize goneA c.N (pr s.L) key = G at *
      clear hl6 p6 o6 s6 HS6 hown6 hw6 hit hno hc7 ho7 H7 hwent
      go_wp2_with (fail)
      go_end0
      exact ⟨_, rfl, HP.out⟩
    | true =>
      have hgz := gone_size K.out.lru hwent
      have hgi : (findW s.WS (goneA c.N (pr s.L) key)).isSome = true := by rw [← K.out.same]; exact gone_in K.out.lru.big.1 hwent
      obtain ⟨w8, hrun8, HS8⟩ := HStep.del HS6.core hgz hgi
      have hown8 : ∀ i, HOwn c { s with L := L6, WS := delW s.WS (goneA c.N (pr s.L) key) } i → i ≠ p ∧ i ≠ m := fun i hi => by
        rcases HS8.own i hi with h | h
        · exact hown6 i h
        · have h5 := HZ5.out; have := o6.size; omega
      have o8 := HS8.off
      have hw8 := hw6.kept (o8.block p (by have h5 := HZ5.out; have := o6.size; omega) (fun h => (hown6 p h).1 rfl)) (o8.block m (by have h5 := HZ5.out; have := o6.size; omega) (fun h => (hown6 m h).2 rfl))
      obtain ⟨_, _, _, _, _, _, c6b, _, _⟩ := HS8.core.cells
      have hfew8 : (delW s.WS (goneA c.N (pr s.L) key)).length ≤ s.WS.length := List.length_filter_le _ _
      obtain ⟨w7, hrun, hc7, ho7⟩ := HS8.core.mapPut (x := ⟨key, p, m, at_, newW at_ [passH U]⟩) hk (by show findW (delW s.WS (goneA c.N (pr s.L) key)) key = none; rw [findW_del, hno]; simp) hw8 (by show at_ ≤ s.last; rw [HAT.out]; exact Int.le_refl _) hown8 hit (by show (delW s.WS (goneA c.N (pr s.L) key)).length < maxLen; unfold maxLen; omega)
      have H7 := HStep.put (HS6'.out.trans HS8) hc7 ho7 HZ5.out.2.2.1 HZ5.out.2.2.2.1
      have HP := Lib.hid (KeepPost.new (w5 := w5) (w6 := w6) K.out HH.out H7 p6 rfl HX.out (by rw [hwent, if_pos rfl]))
      generalize goneA c.N (pr s.L) key = G at *
      have hrun8 := hrun8
      clear hl6 p6 o6 s6 HS6 hown6 hw6 hit hno hc7 ho7 H7 hwent hgz hgi HS8 hown8 o8 hw8 hfew8 HS6c HS6'
      go_wp2_with (fail)
      go_end0
      exact ⟨_, rfl, HP.out⟩
end Go.Proofs.YtemlafbkkaloiaaGreat
namespace Go.Proofs.YtemlafbkkaloiaaGreat
open Go.RowKit
def rowsT (n : Nat) (A : List (ByteArray × Int)) (key : ByteArray) : List (ByteArray × Int) := if hasA A key then getA A key else putA n A key 0
structure TakePost (w : World) (c : HotC) (s : HotV) (at_ : Int) (key : ByteArray) (n : Int) (w' : World) (s' : HotV) : Prop where
  hot : HotAt w' c s'
  off : Off (HOwn c s) w w'
  own : ∀ i, HOwn c s' i → HOwn c s i ∨ w.heap.size ≤ i
  err : lookHE s.last at_ key n ≠ 0 → s' = s
  no : lookHE s.last at_ key n = 0 → lookHB c s at_ key n = false → s' = { s with last := at_ }
  last : lookHB c s at_ key n = true → s'.last = at_ ∧ s'.ls = at_
  sn : lookHB c s at_ key n = true → s'.sn = s.sn ++ newNotes at_ key [n]
  rows : lookHB c s at_ key n = true → pr s'.L = rowsT c.N (pr s.L) key
  vals : lookHB c s at_ key n = true → ∀ k, s'.V k = if k = key then some (((s.V key).getD (newW at_ [passH (usedH c s at_ key)])) ++ newW at_ [passH n]) else if (!hasA (pr s.L) key) && (wentA c.N (pr s.L) key && decide (k = goneA c.N (pr s.L) key)) then none else s.V k
theorem addE_one {last at_ n : Int} (h : lookS last at_ = 0) (n0 : 0 ≤ n) (n1 : n ≤ 1099511627776) : addE last at_ [n] = 0 := by
  have hb : badS n = false := by unfold badS; rw [decide_eq_false (by omega), decide_eq_false (by omega)]; rfl
  unfold addE
  rw [h, if_neg (by omega), if_neg (by simp [hb])]
theorem ints_oneH (w : World) (n : Int) : IntsAt (w.alloc (.cells #[.int .i64 n] 3)) (some ⟨w.heap.size, 0, none⟩) [n] := by
  refine Or.inr ⟨_, 0, rfl, by simp, fun j hj => ?_⟩
  obtain rfl : j = 0 := by simp at hj; omega
  have := new_blockS w (.cells #[.int .i64 n] 3)
  simp only [World.cell?, this]; rfl
theorem HStep.hot {w w' : World} {c : HotC} {s s' : HotV} (h : HStep w w' c s s') (h1 : ∀ k, hasA (pr s'.L) k = (findW s'.WS k).isSome) (h2 : s'.WS.length ≤ 4096) : HotAt w' c s' := ⟨h.core, h1, h2⟩
theorem TakePost.yes {w w2 w3 w5 : World} {c : HotC} {s s3 : HotV} {x : HW} {v' : Value} {bs' : List BkS} {at_ n : Int} {key : ByteArray} (k : HotAt w c s) (hB : lookHB c s at_ key n = true) (h2 : HStep w w2 c s { s with last := at_ }) (hK : KeepPost w2 c { s with last := at_ } at_ key w3 s3)
    (hx : findW s3.WS key = some x) (h5 : HStep w3 w5 c s3 { s3 with WS := updW s3.WS x.key at_ (newW at_ [passH n]), ls := at_, sn := s3.sn ++ newNotes at_ key [n], v := v', bs := bs' }) :
    TakePost w c s at_ key n w5 { s3 with WS := updW s3.WS x.key at_ (newW at_ [passH n]), ls := at_, sn := s3.sn ++ newNotes at_ key [n], v := v', bs := bs' } := by
  have hxk : x.key = key := (findW_mem hx).2
  have hE : lookHE s.last at_ key n = 0 := by
    unfold lookHB at hB
    simp only [Bool.and_eq_true, decide_eq_true_eq] at hB
    exact hB.1
  have h := (h2.trans hK.step).trans h5
  refine ⟨h.hot (fun q => ?_) ?_, h.off, h.own, fun h0 => absurd hE h0, fun _ h0 => (by rw [hB] at h0; cases h0), fun _ => ⟨hK.last, rfl⟩, fun _ => ?_, fun _ => ?_, fun _ q => ?_⟩
  · show hasA (pr s3.L) q = (findW (updW s3.WS x.key at_ (newW at_ [passH n])) q).isSome
    rw [findW_upd, Option.isSome_map]
    exact hK.hot.same q
  · show (updW s3.WS x.key at_ (newW at_ [passH n])).length ≤ 4096
    unfold updW
    rw [List.length_map]
    exact hK.hot.few
  · show s3.sn ++ _ = _
    rw [hK.sn]
  · show pr s3.L = _
    rw [hK.rows]; rfl
  · show (findW (updW s3.WS x.key at_ (newW at_ [passH n])) q).map (·.notes) = _
    have hv := hK.vals q
    have hu : usedH c { s with last := at_ } at_ key = usedH c s at_ key := rfl
    rw [hu] at hv
    rw [findW_upd, hxk]
    by_cases e : q = key
    · subst e
      rw [if_pos rfl]
      have e1 : s3.V q = some x.notes := by unfold HotV.V; rw [hx]; rfl
      rw [e1] at hv
      rw [hx]
      simp only [Option.map_some, hxk, if_true]
      cases hh : hasA (pr s.L) q with
      | true =>
        rw [show hasA (pr ({ s with last := at_ } : HotV).L) q = true from hh, if_pos rfl] at hv
        rw [show s.V q = some x.notes from hv.symm]; rfl
      | false =>
        rw [show hasA (pr ({ s with last := at_ } : HotV).L) q = false from hh, if_neg (by simp), if_pos rfl] at hv
        have hn : s.V q = none := by
          have := k.same q
          rw [hh] at this
          unfold HotV.V
          cases hq : findW s.WS q with
          | none => rfl
          | some y => rw [hq] at this; cases this
        rw [hn]
        injection hv with hv
        rw [hv]; rfl
    · rw [if_neg e]
      have e1 : ((findW s3.WS q).map (fun y => if y.key = key then (⟨y.key, y.p, y.m, at_, y.notes ++ newW at_ [passH n]⟩ : HW) else y)).map (·.notes) = s3.V q := by
        unfold HotV.V
        cases hq : findW s3.WS q with
        | none => rfl
        | some y =>
          have : y.key ≠ key := fun h => e ((findW_mem hq).2.symm.trans h)
          simp only [Option.map_some, if_neg this]
      rw [e1, hv, if_neg e]
      show (if hasA (pr s.L) key then s.V q else _) = _
      cases hh : hasA (pr s.L) key with
      | true => simp
      | false => rfl
set_option maxHeartbeats 12800000 in
set_option maxRecDepth 100000 in
theorem htake_any {w : World} {c : HotC} {s : HotV} (k : HotAt w c s) (at_ : Int) (key : ByteArray) (hk : key.size ≤ maxLen) (n : Int) :
    Calls Tryz.prog 18 #[.pointer (some ⟨c.hb, 0, none⟩), .int .i64 at_, .string key, .int .i64 n] w fun e w' => ∃ s', e = .returned (.tuple #[.bool (lookHB c s at_ key n), .int .i64 (lookHE s.last at_ key n)]) ∧ TakePost w c s at_ key n w' s' := by
  have K := Lib.hid k
  have HLK := Lib.hid (hlook_any k at_ key hk n)
  clear k
  by_cases hE : lookHE s.last at_ key n = 0
  · obtain ⟨⟨n0, n1⟩, hwe⟩ := lookHE_ok hE
    obtain ⟨a0, a1, a2, _⟩ := hwE_ok hwe
    rw [hE] at HLK ⊢
    have HE := Lib.hid hE
    clear hE hwe
    cases hB : lookHB c s at_ key n with
    | false =>
      rw [hB] at HLK
      have HB := Lib.hid hB
      clear hB
      go_enter Tryz.func18, Tryz.ntmps18
      go_wp2_with (fail)
      refine HLK.out.mono ?_
      rintro e w1 ⟨rfl, h1⟩
      have k1 := K.out.below h1
      obtain ⟨_, _, _, _, _, _, _, _, c8⟩ := k1.cells
      have f8 : w1.frozen? ⟨c.hb, 8, none⟩ = false := by simp only [World.frozen?, k1.head]; simp
      have HS := HStep.head k1.toHotCore a2 a1
      have HT := Lib.hid (show TakePost w c s at_ key n (w1.setCell ⟨c.hb, 8, none⟩ (.int .i64 at_)) { s with last := at_ } from
        ⟨HS.hot k1.same k1.few, ((HStep.below K.out.toHotCore h1).trans HS).off, ((HStep.below K.out.toHotCore h1).trans HS).own, fun h0 => absurd HE.out h0, fun _ _ => rfl, fun h0 => (by rw [HB.out] at h0; cases h0), fun h0 => (by rw [HB.out] at h0; cases h0), fun h0 => (by rw [HB.out] at h0; cases h0), fun h0 => (by rw [HB.out] at h0; cases h0)⟩)
      clear h1 k1 HS HLK
      go_wp2_with (fail)
      go_ret2
      exact ⟨_, rfl, HT.out⟩
    | true =>
      rw [hB] at HLK
      have HB := Lib.hid hB
      clear hB
      go_enter Tryz.func18, Tryz.ntmps18
      go_wp2_with (fail)
      refine HLK.out.mono ?_
      rintro e w1 ⟨rfl, h1⟩
      have k1 := K.out.below h1
      obtain ⟨_, _, _, _, _, _, _, _, c8⟩ := k1.cells
      have f8 : w1.frozen? ⟨c.hb, 8, none⟩ = false := by simp only [World.frozen?, k1.head]; simp
      have HS := HStep.head k1.toHotCore a2 a1
      have hot2 := HS.hot (by exact k1.same) k1.few
      have HS2 := Lib.hid ((HStep.below K.out.toHotCore h1).trans HS)
      have HKP := Lib.hid (hkeep_any hot2 at_ rfl key hk)
      have HOT2 := Lib.hid hot2
      clear h1 k1 HS HLK hot2
      go_wp2_with (fail)
      refine HKP.out.mono ?_
      rintro e w3 ⟨s3, rfl, hkp⟩
      have HK := Lib.hid hkp
      obtain ⟨x, hx⟩ : ∃ x, findW s3.WS key = some x := by
        have hv := hkp.vals key
        cases hq : findW s3.WS key with
        | some x => exact ⟨x, rfl⟩
        | none =>
          exfalso
          unfold HotV.V at hv
          rw [hq] at hv
          cases hh : hasA (pr s.L) key with
          | true =>
            rw [show hasA (pr ({ s with last := at_ } : HotV).L) key = true from hh, if_pos rfl] at hv
            have h2 := HOT2.out.same key
            rw [show hasA (pr ({ s with last := at_ } : HotV).L) key = true from hh] at h2
            cases hq2 : findW ({ s with last := at_ } : HotV).WS key with
            | none => rw [hq2] at h2; cases h2
            | some y => rw [hq2] at hv; cases hv
          | false =>
            rw [show hasA (pr ({ s with last := at_ } : HotV).L) key = false from hh, if_neg (by simp), if_pos rfl] at hv
            cases hv
      have hxm := (findW_mem hx).1
      have hxk := (findW_mem hx).2
      have hlk := (hkp.hot.look hk).2
      rw [hx, Option.map_some] at hlk
      obtain ⟨_, _, _, _, _, _, c6, _, _⟩ := hkp.hot.cells
      obtain ⟨hwin, hwl⟩ := hkp.hot.wins x hxm
      have hsl : s3.last = at_ := hkp.last
      have hal : Below w3.heap.size w3 (w3.alloc (ctO (passH n) 92)) := (Below.refl _ _).alloc (Nat.le_refl _) _
      have hwlt := hwin.lt
      have HAD := wAddN_any (hwin.below hal) at_ (by unfold lookW; rw [if_neg (by omega), if_neg (by omega)]) (some ⟨w3.heap.size, 0, none⟩) 1 1 [passH n] rfl (by omega) (by simp) (cts_oneH _) (by intro y hy; obtain rfl := List.mem_singleton.1 hy; exact passH_right (by omega) (by omega)) (fun g off e => by injection e with e; injection e with e; omega)
      have HAD := Lib.hid HAD
      have HAL := Lib.hid hal
      have HX := Lib.hid (And.intro hx (And.intro hxm hxk))
      have HSL := Lib.hid hsl
      generalize hxp : x.p = xp at hlk HAD
      have HXP := Lib.hid hxp
      unfold ctO passH at HAD
      dsimp only at HAD
      clear hkp hx hxm hxk hwin hwl hsl hal hwlt HKP c8 f8 hxp
      go_wp2_with (fail)
      refine HAD.out.mono ?_
      rintro e w4 ⟨rfl, hw4, o4⟩
      have hst4 := HStep.win (w' := w4) (HK.out.hot.toHotCore.below (show Below w3.heap.size w3 (w3.alloc (ctO (passH n) 92)) from HAL.out)) HX.out.2.1 (at_ := at_) (ns := newW at_ [passH n]) (by rw [HXP.out]; exact hw4) (by rw [HSL.out]; exact Int.le_refl _) (by rw [HXP.out]; exact o4)
      have HS4 := Lib.hid ((HStep.below HK.out.hot.toHotCore HAL.out).trans hst4)
      obtain ⟨_, _, _, _, _, _, _, c7, _⟩ := hst4.core.cells
      have hal4 : Below w4.heap.size w4 (w4.alloc (.cells #[.int .i64 n] 3)) := (Below.refl _ _).alloc (Nat.le_refl _) _
      have k4a := hst4.core.below hal4
      have hls : s3.ls ≤ at_ := by have := HK.out.hot.lsl; rw [HSL.out] at this; exact this
      have hadd := addE_one (n := n) (show lookS s3.ls at_ = 0 by unfold lookS; rw [if_neg (by omega), if_neg (by omega)]) (by omega) n1
      have HAD2 := skaddI2_any k4a.sk k4a.shS at_ key hk (some ⟨w4.heap.size, 0, none⟩) 1 1 [n] rfl (by omega) (ints_oneH w4 n) (fun _ g off hg hs => by
        have := hst4.core.sk.at_.lt hs
        injection hg with hg; injection hg with hg; omega) k4a.skf
      rw [show ({ s3 with WS := updW s3.WS x.key at_ (newW at_ [passH n]) } : HotV).ls = s3.ls from rfl, hadd, if_pos rfl, if_pos rfl] at HAD2
      have HAD2 := Lib.hid HAD2
      have K4 := Lib.hid k4a
      have HAL4 := Lib.hid hal4
      have HS4c := Lib.hid hst4
      clear hst4 hal4 k4a hls hadd HAD hw4 o4 hlk c6
      go_wp2_with (fail)
      refine HAD2.out.mono ?_
      rintro e w5 ⟨rfl, v5, bs5, hk5, o5, s5, f5⟩
      have hst5 := HStep.sk K4.out hk5 (by show at_ ≤ s3.last; rw [HSL.out]; exact Int.le_refl _) f5 o5 s5
      have HT := Lib.hid (TakePost.yes K.out HB.out HS2.out HK.out HX.out.1 ((HS4.out.trans (HStep.below HS4c.out.core HAL4.out)).trans hst5))
      clear hst5 hk5 o5 s5 c7
      go_wp2_with (fail)
      go_ret2
      exact ⟨_, rfl, HT.out⟩
  · have hB : lookHB c s at_ key n = false := by unfold lookHB; rw [decide_eq_false hE]; rfl
    have hne : (lookHE s.last at_ key n != 0) = true := by simpa using hE
    rw [hB] at HLK ⊢
    have HE := Lib.hid hE
    have HB := Lib.hid hB
    have HT : Hid (∀ w1, Below w.heap.size w w1 → TakePost w c s at_ key n w1 s) := fun w1 h1 => ⟨K.out.below h1, Off.ofBelow h1, fun i hi => Or.inl hi, fun _ => rfl, fun h0 => absurd h0 HE.out, fun h0 => (by rw [HB.out] at h0; cases h0), fun h0 => (by rw [HB.out] at h0; cases h0), fun h0 => (by rw [HB.out] at h0; cases h0), fun h0 => (by rw [HB.out] at h0; cases h0)⟩
    generalize lookHE s.last at_ key n = E at hne HLK ⊢
    clear hE hB
    go_enter Tryz.func18, Tryz.ntmps18
    go_wp2_with (fail)
    refine HLK.out.mono ?_
    rintro e w1 ⟨rfl, h1⟩
    have HT1 := Lib.hid (HT.out _ h1)
    clear h1 HT
    go_wp2_with (fail)
    go_ret2
    exact ⟨_, rfl, HT1.out⟩
end Go.Proofs.YtemlafbkkaloiaaGreat
