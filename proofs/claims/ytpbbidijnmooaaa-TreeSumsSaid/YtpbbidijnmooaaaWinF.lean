/- window: the buckets of a window, one behind the other. -/
import Derived.Test.YtpbbidijnmooaaaWinE
import Derived.Test.YtpbbidijnmooaaaHeldIn
import Derived.RangeFuncNested
import Derived.RangeFuncBound
import Derived.RangeFuncCalls
import Derived.RangeFuncLeaves
import Derived.Shelf.Abstract
import Derived.OwnWalkIn
import Derived.TacticsInMore
import Derived.LoopNIn
import Derived.LoopIn
namespace Go.Proofs.Ytpbbidijnmooaaa
open Go.RowKit Go.Shelf
set_option linter.unusedVariables false
set_option linter.unusedSimpArgs false
attribute [local go_sem] Oper.semAt_some

/-- The buckets from lo on, n of them, in which something is noted. -/
def bksW (f : Int → Option CntS) (lo : Int) : Nat → List (Int × CntS)
  | 0 => []
  | n + 1 => bksW f lo n ++ (match f (lo + n) with | some c => [(lo + n, c)] | none => [])
theorem bksW_len (f : Int → Option CntS) (lo : Int) : ∀ n, (bksW f lo n).length ≤ n
  | 0 => Nat.le_refl _
  | n + 1 => by
    have := bksW_len f lo n
    rw [bksW]
    cases f (lo + n) <;> simp <;> omega
/-- What a round that goes on keeps. -/
structure KeepW (n1 s : Nat) (W W' : World) : Prop where
  size : W.heap.size ≤ W'.heap.size
  low : ∀ i : Nat, i < n1 → i ≠ s → W'.heap[i]? = W.heap[i]?
  cells : ∀ (i : Nat) (o : Obj), W.heap[i]? = some o → o.isCells = true → i ≠ s → W'.heap[i]? = some o
theorem keepW_t {n1 s : Nat} {A B C : World} (h : KeepW n1 s A B) (k : KeepW n1 s B C) : KeepW n1 s A C := ⟨Nat.le_trans h.1 k.1, fun i hi hn => (k.2 i hi hn).trans (h.2 i hi hn), fun i o h1 h2 h3 => k.3 i o (h.3 i o h1 h2 h3) h2 h3⟩
theorem keepW_b {n1 s : Nat} {w : World} (hn : n1 ≤ w.heap.size) (W : World) (l : Nat) (o o' : Obj) (hl : w.heap.size ≤ l) (h : W.heap[l]? = some o) (hc : o.isCells = false) (_ : o.isWalk = false) : KeepW n1 s W (W.putObj l o') :=
  ⟨(grownBy_putObj' W l o').size, fun i hi _ => (grownBy_putObj' W l o').block i (by have := (Array.getElem?_eq_some_iff.1 h).1; omega) (by simp; omega), fun i x hx hxc _ => by
    refine ((grownBy_putObj' W l o').block i (Array.getElem?_eq_some_iff.1 hx).1 (fun e => ?_)).trans hx
    cases e
    rw [h] at hx; cases hx; rw [hc] at hxc; cases hxc⟩
theorem KeepW.cell {n1 s : Nat} {W W' : World} (h : KeepW n1 s W W') {q o : Nat} {v : Value} (hq : q ≠ s) (hv : W.cell? ⟨q, o, none⟩ = some v) : W'.cell? ⟨q, o, none⟩ = some v := by
  obtain ⟨x, hx⟩ : ∃ x, W.heap[q]? = some x := ⟨_, Array.getElem?_eq_getElem (World.block_lt_of_cell? W _ hv)⟩
  have hc : x.isCells = true := by
    have hv' := hv
    simp only [World.cell?, hx] at hv'
    cases x <;> simp [Obj.isCells] at hv' ⊢
  exact (World.cell?_of_block (w := W) (a := ⟨q, o, none⟩) ((h.cells q x hx hc hq).trans hx.symm)).trans hv
def bkV (D : Int) (x : Int × CntS) : Value := .agg #[.int .i64 (x.1 * D), .int .i64 x.2.p, .int .i64 x.2.b, .int .i64 x.2.d, .int .i64 x.2.e, .int .i64 x.2.r, .int .i64 x.2.m]
theorem grown_drewN (w : World) (n : Nat) : w.grownBy (w.drewN n) none := ⟨rfl, rfl, rfl, Nat.le_refl _, fun _ _ _ => rfl⟩

/-- What the loop's body may know of what it is handed. -/
def GoodW (D : Int) (x : Int × CntS) : Prop := RightC x.2 ∧ 0 ≤ x.1 * D ∧ x.1 * D ≤ 1152921504606846976
set_option maxHeartbeats 6400000 in
set_option maxRecDepth 100000 in
theorem wat1_in {p m : Nat} {W B last at_ : Int} {f : Int → Option CntS} (a0 : 0 ≤ at_) (a1 : at_ ≤ 1152921504606846976) (n : Nat) (hn : 3 ≤ n) (n1 s bp ba : Nat) (hp : p < n1 ∧ p ≠ s) (hm : m < n1 ∧ m ≠ s) (hbp : bp < n1 ∧ bp ≠ s) (hba : ba < n1 ∧ ba ≠ s) (hs : s < n1) (K : Int) (hK : at_ / (W / B) = K) (cnt : Nat) (lo : Int)
    (hlo : lo = max 0 (K - B + 1)) (hcnt : (cnt : Int) = K - lo + 1) (l : Nat) (J Jx : List (Int × CntS) → World → Prop) (wS : World) (h : WinAt wS p m W B last f) (hn1 : n1 ≤ wS.heap.size) (hcp : wS.cell? ⟨bp, 0, none⟩ = some (.pointer (some ⟨p, 0, none⟩))) (hca : wS.cell? ⟨ba, 0, none⟩ = some (.int .i64 at_))
    (hJ : AbidesFrom wS.heap.size J)
    (hY : ∀ pre x W1, GoodW (W / B) x → J pre W1 → pre.length < 61 → YieldAt Fence.wide (n - 1) Try.prog l #[bkV (W / B) x] W1 fun e W' =>
      (e = .returned (.bool true) ∧ J (pre ++ [x]) W' ∧ KeepW n1 s W1 W') ∨ (e = .returned (.bool false) ∧ Jx (pre ++ [x]) W'))
    (h0 : J [] wS) :
    CallsIn Fence.wide n Try.prog 63 #[.func (.yield l) #[] #[], .pointer (some ⟨bp, 0, none⟩), .pointer (some ⟨ba, 0, none⟩)] wS fun e W' => (∃ v, e = .returned v) ∧
      ((∃ ys, ys = bksW f lo cnt ∧ J ys W') ∨ (∃ pre : List (Int × CntS), True ∧ Jx pre W')) := by
  have HBK := Lib.hid (fun (wx : World) (hx : WinAt wx p m W B last f) => wbucket_any p W B at_ h.shape a0 (by omega) wx hx.cells.1 hx.cells.2.1)
  have HH := Lib.hid h
  have HJ := Lib.hid hJ
  have HY := Lib.hid hY
  have H0 := Lib.hid h0
  have hb0 := h.shape.b0
  have hb1 := h.shape.b1
  have hslot := h.shape.slot
  have hsle := h.shape.le
  have hK0 : 0 ≤ K := by rw [← hK]; exact Int.ediv_nonneg a0 (by omega)
  have hK1 : K ≤ at_ := by rw [← hK]; exact Int.ediv_le_self _ a0
  have hKm : ∀ i, 0 ≤ i → i ≤ K → 0 ≤ i * (W / B) ∧ i * (W / B) ≤ at_ := fun i i0 i1 => by
    have e := Int.mul_ediv_add_emod at_ (W / B)
    rw [hK] at e
    have e2 := Int.emod_nonneg at_ (show W / B ≠ 0 by omega)
    have e3 := Int.mul_le_mul_of_nonneg_right i1 (show 0 ≤ W / B by omega)
    have e4 := Int.mul_nonneg i0 (show 0 ≤ W / B by omega)
    rw [Int.mul_comm (W / B) K] at e
    omega
  have HKM := Lib.hid hKm
  have q1 : W.tdiv B = W / B := Int.tdiv_eq_ediv_of_nonneg (by have := h.shape.w0; omega)
  rw [hK] at HBK
  have HLO := Lib.hid hlo
  have HCNT := Lib.hid hcnt
  obtain ⟨c0, c1, c2, c3⟩ := h.cells
  obtain ⟨D, hD⟩ : ∃ D, W / B = D := ⟨_, rfl⟩
  rw [hD] at HY HKM q1 hslot hsle
  have hBne : (B == 0) = false := by rw [beq_eq_false_iff_ne]; omega
  have hBne1 : (B == -1) = false := by rw [beq_eq_false_iff_ne]; omega
  have hBz : ¬ B = 0 := by omega
  have hwD : IntKind.i64.wrap D = D := IntWalk.i64_in _ (by omega)
  have HS := Lib.hid hs
  have hlo0 : 0 ≤ lo := by rw [hlo]; omega
  have hlo1 : K - B + 1 ≤ lo := by rw [hlo]; omega
  have hlo2 : lo ≤ K := by rw [hlo]; omega
  have HPW := Lib.hid hp
  have HMW := Lib.hid hm
  have HBP := Lib.hid hbp
  have HBA := Lib.hid hba
  have HN1 := Lib.hid hn1
  have HCP := Lib.hid hcp
  have HCA := Lib.hid hca
  have hmax : max 0 (K - B + 1) = lo := hlo.symm
  clear h hJ hY h0 hK hKm hD hlo hcnt hp hm hbp hba hn1
  refine callsIn_of_wp Try.func63 rfl trivial ?_ rfl
  simp only [Try.ntmps63, List.size_toArray, List.length_cons, List.length_nil, Nat.reduceAdd, Nat.reduceSub, Array.replicate_succ, Array.replicate_zero, List.push_toArray, List.append_toArray, List.nil_append, List.cons_append]
  gi_wp2
  refine ⟨trivial, fun _ => by omega, (callsIn_wide.2 (HBK.out wS HH.out)).mono ?_⟩
  rintro e wb ⟨rfl, nq, hq⟩
  have hgb := grown_drewN wS nq
  rw [← hq] at hgb
  have HJB := Lib.hid (HJ.out [] wS wb none H0.out hgb (by simp))
  have hkb : ∀ i : Nat, wb.heap[i]? = wS.heap[i]? := fun i => by rw [hq]; rfl
  have hwb := HH.out.kept (hkb p) (hkb m)
  have HWB := Lib.hid hwb
  have HZB := Lib.hid (show wb.heap.size = wS.heap.size by rw [hq]; rfl)
  have hcp2 : wb.cell? ⟨bp, 0, none⟩ = some (.pointer (some ⟨p, 0, none⟩)) := (World.cell?_of_block (a := ⟨bp, 0, none⟩) (hkb bp)).trans HCP.out
  have hca2 : wb.cell? ⟨ba, 0, none⟩ = some (.int .i64 at_) := (World.cell?_of_block (a := ⟨ba, 0, none⟩) (hkb ba)).trans HCA.out
  have HCP2 := Lib.hid hcp2
  have HCA2 := Lib.hid hca2
  clear c0 c1 c2 c3 hcp hca
  obtain ⟨c0, c1, c2, c3⟩ := hwb.cells
  clear hq hgb hkb hwb
  gi_wp2
  gi_loopw [5, 6, 7] (fun i _ _ wr => ∃ j : Nat, j ≤ cnt ∧ i = .int .i64 (lo + j) ∧ Hid (J (bksW f lo j) wr) ∧ Hid (WinAt wr p m W B last f) ∧ Hid (wb.heap.size ≤ wr.heap.size) ∧ Hid (wr.cell? ⟨bp, 0, none⟩ = some (.pointer (some ⟨p, 0, none⟩))) ∧ Hid (wr.cell? ⟨ba, 0, none⟩ = some (.int .i64 at_))) (fun i _ _ _ => cnt - (intOf i - lo).toNat)
  case atStart => exact ⟨0, Nat.zero_le _, by simp, HJB, HWB, Lib.hid (Nat.le_refl _), HCP2, HCA2⟩
  case round =>
    rename World => wy
    obtain ⟨j, hj, rfl, HJY, HWY, HZY, HCPY, HCAY⟩ := hrel
    have hcn := HCNT.out
    by_cases hlt : j < cnt
    · have hle : lo + j ≤ K := by omega
      have hi0 : 0 ≤ lo + j := by omega
      have hlk := HWY.out.map.look2 (k := lo + j) (okW_of (by omega))
      obtain ⟨c0, c1, c2, c3⟩ := HWY.out.cells
      have c4 := HCPY.out
      have c5 := HCAY.out
      have hplt := HWY.out.lt.1
      have hbplt := World.block_lt_of_cell? wy _ c4
      have hmul := HKM.out (lo + j) hi0 hle
      have hw1 : IntKind.i64.wrap ((lo + j) * D) = (lo + j) * D := IntWalk.i64_in _ (by omega)
      have hw2 : IntKind.i64.wrap (lo + j + 1) = lo + j + 1 := IntWalk.i64_in _ (by omega)
      have HST := Lib.hid (show bksW f lo (j + 1) = bksW f lo j ++ (match f (lo + j) with | some c => [(lo + j, c)] | none => []) from rfl)
      have hlen := bksW_len f lo j
      obtain ⟨I, hI⟩ : ∃ I, lo + j = I := ⟨_, rfl⟩
      have HI := Lib.hid hI
      rw [hI] at hlk hmul hw1 hw2 hi0 hle HST ⊢
      cases hf : f I with
      | some c =>
        rw [hf] at hlk HST
        have HST : Hid (bksW f lo (j + 1) = bksW f lo j ++ [(I, c)]) := HST
        have HGOOD := Lib.hid (show GoodW D (I, c) from ⟨(HWY.out.map.1 I c hf).2.2, hmul.1, by have := hmul.2; show I * D ≤ _; omega⟩)
        clear hf hI
        obtain ⟨cp, cb, cd, ce, cr, cm⟩ := c
        have HNEW := Lib.hid (ct_cells (w := wy.alloc (ctO ⟨cp, cb, cd, ce, cr, cm⟩ 32)) (g := wy.heap.size) (c := ⟨cp, cb, cd, ce, cr, cm⟩) (t := 32) (by rw [get_allocW, if_pos rfl])).1
        have hOld : ∀ q o v, wy.cell? ⟨q, o, none⟩ = some v → (wy.alloc (ctO ⟨cp, cb, cd, ce, cr, cm⟩ 32)).cell? ⟨q, o, none⟩ = some v := fun q o v hv => (World.cell?_alloc_lt wy _ _ (World.block_lt_of_cell? wy _ hv)).trans hv
        have HOLD := Lib.hid (And.intro (hOld _ _ _ c4) (And.intro (hOld _ _ _ c0) (hOld _ _ _ c1)))
        have HJA := Lib.hid (HJ.out _ wy ((wy.alloc (ctO ⟨cp, cb, cd, ce, cr, cm⟩ 32)).drew) none HJY.out ⟨rfl, rfl, rfl, by simp [World.drew], fun i hi _ => Below.heap_alloc wy _ i hi⟩ (by simp))
        have HYY := Lib.hid (HY.out (bksW f lo j) (I, ⟨cp, cb, cd, ce, cr, cm⟩) _ HGOOD.out HJA.out (by omega))
        clear hOld
        unfold ctV at hlk
        unfold bkV at HYY
        unfold ctO at HYY HJA HNEW HOLD
        simp only [Option.getD_some, Option.isSome_some] at hlk
        dsimp only at *
        gi_wp2
        have HBLK := Lib.hid (show (wy.alloc (.cells #[.int .i64 cp, .int .i64 cb, .int .i64 cd, .int .i64 ce, .int .i64 cr, .int .i64 cm] 32)).heap[wy.heap.size]? = some (.cells #[.int .i64 cp, .int .i64 cb, .int .i64 cd, .int .i64 ce, .int .i64 cr, .int .i64 cm] 32) by rw [get_allocW, if_pos rfl])
        obtain ⟨wA, hwA⟩ : ∃ wA, wy.alloc (.cells #[.int .i64 cp, .int .i64 cb, .int .i64 cd, .int .i64 ce, .int .i64 cr, .int .i64 cm] 32) = wA := ⟨_, rfl⟩
        have HLOW := Lib.hid (show ∀ i : Nat, i < wy.heap.size → wA.heap[i]? = wy.heap[i]? from fun i hi => by rw [← hwA]; exact Below.heap_alloc wy _ i hi)
        have HZA := Lib.hid (show wA.heap.size = wy.heap.size + 1 by rw [← hwA]; simp)
        rw [hwA] at HYY HJA HNEW HOLD HBLK ⊢
        clear hwA
        obtain ⟨Z, hZ⟩ : ∃ Z, wy.heap.size = Z := ⟨_, rfl⟩
        rw [hZ] at HNEW HBLK HLOW HZA ⊢
        have HZ := Lib.hid hZ
        clear hZ hplt hbplt
        refine wpIn_region_noPanic ?_
        refine held_region (y := some 16) (S := fun wx => wx.cell? ⟨bp, 0, none⟩ = some (.pointer (some ⟨p, 0, none⟩)) ∧ wx.cell? ⟨p, 0, none⟩ = some (.int .i64 W) ∧ wx.cell? ⟨p, 1, none⟩ = some (.int .i64 B) ∧ wx.cell? ⟨Z, 0, none⟩ = some (.int .i64 cp) ∧ wx.cell? ⟨Z, 1, none⟩ = some (.int .i64 cb) ∧ wx.cell? ⟨Z, 2, none⟩ = some (.int .i64 cd) ∧ wx.cell? ⟨Z, 3, none⟩ = some (.int .i64 ce) ∧ wx.cell? ⟨Z, 4, none⟩ = some (.int .i64 cr) ∧ wx.cell? ⟨Z, 5, none⟩ = some (.int .i64 cm)) (by kernel_rfl) ?_ (fun hHeld => ?_)
        · exact ⟨HOLD.out.1, HOLD.out.2.1, HOLD.out.2.2, HNEW.out⟩
        refine held_take (i := 0) (y := some 16) (v := ?_) (fun _ => trivial) (by kernel_rfl) rfl (fun z hz => by cases hz; decide) 18 (fun z hz => by cases hz; kernel_rfl) (by kernel_rfl) (by kernel_rfl) (by kernel_rfl) (fun _ _ _ h => h) (Or.inl ⟨by rfl, ?hy⟩) (by assumption) ?_
        case hy => intro wq hSw; obtain ⟨s0, s1, s2, s3, s4, s5, s6, s7, s8⟩ := hSw; go_simp; try with_reducible rfl
        try simp only [Act.put, List.getElem_toArray, List.getElem_cons_succ, List.getElem_cons_zero, List.setIfInBounds_toArray, List.set_cons_zero, List.set_cons_succ]
        refine held_take (i := 1) (y := some 16) (v := ?_) (fun _ => trivial) (by kernel_rfl) rfl (fun z hz => by cases hz; decide) 18 (fun z hz => by cases hz; kernel_rfl) (by kernel_rfl) (by kernel_rfl) (by kernel_rfl) (fun _ _ _ h => h) (Or.inl ⟨by rfl, ?hy⟩) (by assumption) ?_
        case hy => intro wq hSw; obtain ⟨s0, s1, s2, s3, s4, s5, s6, s7, s8⟩ := hSw; go_simp; try with_reducible rfl
        try simp only [Act.put, List.getElem_toArray, List.getElem_cons_succ, List.getElem_cons_zero, List.setIfInBounds_toArray, List.set_cons_zero, List.set_cons_succ]
        refine held_take (i := 2) (y := some 16) (v := ?_) (fun _ => trivial) (by kernel_rfl) rfl (fun z hz => by cases hz; decide) 18 (fun z hz => by cases hz; kernel_rfl) (by kernel_rfl) (by kernel_rfl) (by kernel_rfl) (fun _ _ _ h => h) (Or.inl ⟨by rfl, ?hy⟩) (by assumption) ?_
        case hy => intro wq hSw; obtain ⟨s0, s1, s2, s3, s4, s5, s6, s7, s8⟩ := hSw; go_simp; try with_reducible rfl
        try simp only [Act.put, List.getElem_toArray, List.getElem_cons_succ, List.getElem_cons_zero, List.setIfInBounds_toArray, List.set_cons_zero, List.set_cons_succ]
        refine held_take (i := 3) (y := some 16) (v := ?_) (fun _ => trivial) (by kernel_rfl) rfl (fun z hz => by cases hz; decide) 18 (fun z hz => by cases hz; kernel_rfl) (by kernel_rfl) (by kernel_rfl) (by kernel_rfl) (fun _ _ _ h => h) (Or.inl ⟨by rfl, ?hy⟩) (by assumption) ?_
        case hy => intro wq hSw; obtain ⟨s0, s1, s2, s3, s4, s5, s6, s7, s8⟩ := hSw; go_simp; try with_reducible rfl
        try simp only [Act.put, List.getElem_toArray, List.getElem_cons_succ, List.getElem_cons_zero, List.setIfInBounds_toArray, List.set_cons_zero, List.set_cons_succ]
        refine held_take (i := 4) (y := some 16) (v := ?_) (fun _ => trivial) (by kernel_rfl) rfl (fun z hz => by cases hz; decide) 18 (fun z hz => by cases hz; kernel_rfl) (by kernel_rfl) (by kernel_rfl) (by kernel_rfl) (fun _ _ _ h => h) (Or.inl ⟨by rfl, ?hy⟩) (by assumption) ?_
        case hy => intro wq hSw; obtain ⟨s0, s1, s2, s3, s4, s5, s6, s7, s8⟩ := hSw; go_simp; try with_reducible rfl
        try simp only [Act.put, List.getElem_toArray, List.getElem_cons_succ, List.getElem_cons_zero, List.setIfInBounds_toArray, List.set_cons_zero, List.set_cons_succ]
        refine held_take (i := 5) (y := some 16) (v := ?_) (fun _ => trivial) (by kernel_rfl) rfl (fun z hz => by cases hz; decide) 18 (fun z hz => by cases hz; kernel_rfl) (by kernel_rfl) (by kernel_rfl) (by kernel_rfl) (fun _ _ _ h => h) (Or.inl ⟨by rfl, ?hy⟩) (by assumption) ?_
        case hy => intro wq hSw; obtain ⟨s0, s1, s2, s3, s4, s5, s6, s7, s8⟩ := hSw; go_simp; try with_reducible rfl
        try simp only [Act.put, List.getElem_toArray, List.getElem_cons_succ, List.getElem_cons_zero, List.setIfInBounds_toArray, List.set_cons_zero, List.set_cons_succ]
        refine held_take (i := 6) (y := some 16) (v := ?_) (fun _ => trivial) (by kernel_rfl) rfl (fun z hz => by cases hz; decide) 18 (fun z hz => by cases hz; kernel_rfl) (by kernel_rfl) (by kernel_rfl) (by kernel_rfl) (fun _ _ _ h => h) (Or.inl ⟨by rfl, ?hy⟩) (by assumption) ?_
        case hy => intro wq hSw; obtain ⟨s0, s1, s2, s3, s4, s5, s6, s7, s8⟩ := hSw; go_simp; try with_reducible rfl
        try simp only [Act.put, List.getElem_toArray, List.getElem_cons_succ, List.getElem_cons_zero, List.setIfInBounds_toArray, List.set_cons_zero, List.set_cons_succ]
        refine held_take (i := 7) (y := some 16) (v := ?_) (fun _ => trivial) (by kernel_rfl) rfl (fun z hz => by cases hz; decide) 18 (fun z hz => by cases hz; kernel_rfl) (by kernel_rfl) (by kernel_rfl) (by kernel_rfl) (fun _ _ _ h => h) (Or.inl ⟨by rfl, ?hy⟩) (by assumption) ?_
        case hy => intro wq hSw; obtain ⟨s0, s1, s2, s3, s4, s5, s6, s7, s8⟩ := hSw; go_simp; try with_reducible rfl
        try simp only [Act.put, List.getElem_toArray, List.getElem_cons_succ, List.getElem_cons_zero, List.setIfInBounds_toArray, List.set_cons_zero, List.set_cons_succ]
        refine held_take (i := 8) (y := some 16) (v := ?_) (fun _ => trivial) (by kernel_rfl) rfl (fun z hz => by cases hz; decide) 18 (fun z hz => by cases hz; kernel_rfl) (by kernel_rfl) (by kernel_rfl) (by kernel_rfl) (fun _ _ _ h => h) (Or.inl ⟨by rfl, ?hy⟩) (by assumption) ?_
        case hy => intro wq hSw; obtain ⟨s0, s1, s2, s3, s4, s5, s6, s7, s8⟩ := hSw; go_simp; try with_reducible rfl
        try simp only [Act.put, List.getElem_toArray, List.getElem_cons_succ, List.getElem_cons_zero, List.setIfInBounds_toArray, List.set_cons_zero, List.set_cons_succ]
        refine held_take (i := 9) (y := some 16) (v := ?_) (fun _ => trivial) (by kernel_rfl) rfl (fun z hz => by cases hz; decide) 18 (fun z hz => by cases hz; kernel_rfl) (by kernel_rfl) (by kernel_rfl) (by kernel_rfl) (fun _ _ _ h => h) (Or.inl ⟨by rfl, ?hy⟩) (by assumption) ?_
        case hy => intro wq hSw; obtain ⟨s0, s1, s2, s3, s4, s5, s6, s7, s8⟩ := hSw; go_simp; try with_reducible rfl
        try simp only [Act.put, List.getElem_toArray, List.getElem_cons_succ, List.getElem_cons_zero, List.setIfInBounds_toArray, List.set_cons_zero, List.set_cons_succ]
        refine held_take (i := 10) (y := some 16) (v := ?_) (fun _ => trivial) (by kernel_rfl) rfl (fun z hz => by cases hz; decide) 18 (fun z hz => by cases hz; kernel_rfl) (by kernel_rfl) (by kernel_rfl) (by kernel_rfl) (fun _ _ _ h => h) (Or.inl ⟨by rfl, ?hy⟩) (by assumption) ?_
        case hy => intro wq hSw; obtain ⟨s0, s1, s2, s3, s4, s5, s6, s7, s8⟩ := hSw; go_simp; try with_reducible rfl
        try simp only [Act.put, List.getElem_toArray, List.getElem_cons_succ, List.getElem_cons_zero, List.setIfInBounds_toArray, List.set_cons_zero, List.set_cons_succ]
        refine held_take (i := 11) (y := some 16) (v := ?_) (fun _ => trivial) (by kernel_rfl) rfl (fun z hz => by cases hz; decide) 18 (fun z hz => by cases hz; kernel_rfl) (by kernel_rfl) (by kernel_rfl) (by kernel_rfl) (fun _ _ _ h => h) (Or.inl ⟨by rfl, ?hy⟩) (by assumption) ?_
        case hy => intro wq hSw; obtain ⟨s0, s1, s2, s3, s4, s5, s6, s7, s8⟩ := hSw; go_simp; try with_reducible rfl
        try simp only [Act.put, List.getElem_toArray, List.getElem_cons_succ, List.getElem_cons_zero, List.setIfInBounds_toArray, List.set_cons_zero, List.set_cons_succ]
        refine held_take (i := 12) (y := some 16) (v := ?_) (fun _ => trivial) (by kernel_rfl) rfl (fun z hz => by cases hz; decide) 18 (fun z hz => by cases hz; kernel_rfl) (by kernel_rfl) (by kernel_rfl) (by kernel_rfl) (fun _ _ _ h => h) (Or.inl ⟨by rfl, ?hy⟩) (by assumption) ?_
        case hy => intro wq hSw; obtain ⟨s0, s1, s2, s3, s4, s5, s6, s7, s8⟩ := hSw; go_simp; try with_reducible rfl
        try simp only [Act.put, List.getElem_toArray, List.getElem_cons_succ, List.getElem_cons_zero, List.setIfInBounds_toArray, List.set_cons_zero, List.set_cons_succ]
        refine held_take (i := 13) (y := some 16) (v := ?_) (fun _ => trivial) (by kernel_rfl) rfl (fun z hz => by cases hz; decide) 18 (fun z hz => by cases hz; kernel_rfl) (by kernel_rfl) (by kernel_rfl) (by kernel_rfl) (fun _ _ _ h => h) (Or.inl ⟨by rfl, ?hy⟩) (by assumption) ?_
        case hy => intro wq hSw; obtain ⟨s0, s1, s2, s3, s4, s5, s6, s7, s8⟩ := hSw; go_simp; try with_reducible rfl
        try simp only [Act.put, List.getElem_toArray, List.getElem_cons_succ, List.getElem_cons_zero, List.setIfInBounds_toArray, List.set_cons_zero, List.set_cons_succ]
        refine held_take (i := 14) (y := some 16) (v := ?_) (fun _ => trivial) (by kernel_rfl) rfl (fun z hz => by cases hz; decide) 18 (fun z hz => by cases hz; kernel_rfl) (by kernel_rfl) (by kernel_rfl) (by kernel_rfl) (fun _ _ _ h => h) (Or.inl ⟨by rfl, ?hy⟩) (by assumption) ?_
        case hy => intro wq hSw; obtain ⟨s0, s1, s2, s3, s4, s5, s6, s7, s8⟩ := hSw; go_simp; try with_reducible rfl
        try simp only [Act.put, List.getElem_toArray, List.getElem_cons_succ, List.getElem_cons_zero, List.setIfInBounds_toArray, List.set_cons_zero, List.set_cons_succ]
        refine held_take (i := 15) (y := some 16) (v := ?_) (fun _ => trivial) (by kernel_rfl) rfl (fun z hz => by cases hz; decide) 18 (fun z hz => by cases hz; kernel_rfl) (by kernel_rfl) (by kernel_rfl) (by kernel_rfl) (fun _ _ _ h => h) (Or.inl ⟨by rfl, ?hy⟩) (by assumption) ?_
        case hy => intro wq hSw; obtain ⟨s0, s1, s2, s3, s4, s5, s6, s7, s8⟩ := hSw; go_simp; try with_reducible rfl
        try simp only [Act.put, List.getElem_toArray, List.getElem_cons_succ, List.getElem_cons_zero, List.setIfInBounds_toArray, List.set_cons_zero, List.set_cons_succ]
        obtain ⟨fn, tmps, assign, body, hy, hr⟩ := HYY.out
        refine held_one (y := 16) (by kernel_rfl) rfl (by kernel_rfl) (by rfl) (fun K hK => ?_)
        refine yield_op (fun _ => trivial) rfl (by omega) ?hx hr ?hk ?hv
        case hx => go_simp
        case hv =>
          rintro e w' (⟨rfl, _⟩ | ⟨rfl, _⟩)
          · exact ⟨_, rfl⟩
          · exact ⟨_, rfl⟩
        case hk =>
          rintro v w9 (⟨hv, hJ9, hk9⟩ | ⟨hv, hJx9⟩)
          · cases hv
            have HJ9 := Lib.hid hJ9
            have HK9 := Lib.hid hk9
            clear hy hr hJ9 hk9
            refine hK.out _ _ ?_
            clear hK K
            try simp only [Act.put, List.getElem_toArray, List.getElem_cons_succ, List.getElem_cons_zero, List.setIfInBounds_toArray, List.set_cons_zero, List.set_cons_succ]
            refine held_free (i := 17) (y := some 16) (v := ?_) (fun _ => trivial) (by kernel_rfl) rfl (fun z hz => by cases hz; decide) (by kernel_rfl) (by kernel_rfl) (by kernel_rfl) (fun _ _ _ h => h) (Or.inl ⟨by rfl, ?hy⟩) (by first | exact (fun _ => trivial) | exact (fun e => absurd ((e 16 rfl).symm.trans (show _ = true by kernel_rfl)) Bool.false_ne_true)) ?_
            case hy => intro wq hSw; go_simp; try with_reducible rfl
            try simp only [Act.put, List.getElem_toArray, List.getElem_cons_succ, List.getElem_cons_zero, List.setIfInBounds_toArray, List.set_cons_zero, List.set_cons_succ]
            refine held_free (i := 18) (y := some 16) (v := ?_) (fun _ => trivial) (by kernel_rfl) rfl (fun z hz => by cases hz; decide) (by kernel_rfl) (by kernel_rfl) (by kernel_rfl) (fun _ _ _ h => h) (Or.inl ⟨by rfl, ?hy⟩) (by first | exact (fun _ => trivial) | exact (fun e => absurd ((e 16 rfl).symm.trans (show _ = true by kernel_rfl)) Bool.false_ne_true)) ?_
            case hy => intro wq hSw; go_simp; try with_reducible rfl
            try simp only [Act.put, List.getElem_toArray, List.getElem_cons_succ, List.getElem_cons_zero, List.setIfInBounds_toArray, List.set_cons_zero, List.set_cons_succ]
            refine held_done (by kernel_rfl) ?_ _
            refine NoPanic.normal ?_
            have hzz : Z = wy.heap.size := HZ.out.symm
            have hws : WinAt w9 p m W B last f := HWY.out.kept ((HK9.out.low p HPW.out.1 HPW.out.2).trans (HLOW.out p (by have := HWY.out.lt.1; omega))) ((HK9.out.low m HMW.out.1 HMW.out.2).trans (HLOW.out m (by have := HWY.out.lt.2; omega)))
            have HWS := Lib.hid hws
            have HZ9 := Lib.hid (show wb.heap.size ≤ w9.heap.size by have h1 := HK9.out.size; have h2 := HZA.out; have h3 := HZY.out; have h4 : wA.drew.heap.size = wA.heap.size := rfl; omega)
            have HBP9 := Lib.hid (show w9.cell? ⟨bp, 0, none⟩ = some (.pointer (some ⟨p, 0, none⟩)) from HK9.out.cell HBP.out.2 HOLD.out.1)
            have HBA9 := Lib.hid (show w9.cell? ⟨ba, 0, none⟩ = some (.int .i64 at_) from HK9.out.cell HBA.out.2 ((World.cell?_of_block (w := wy) (a := ⟨ba, 0, none⟩) (HLOW.out ba (by have := World.block_lt_of_cell? wy _ HCAY.out; dsimp only at this; omega))).trans HCAY.out))
            clear hws hzz
            gi_wp2
            exact ⟨⟨j + 1, by omega, by rw [← HI.out]; simp; omega, by rw [HST.out]; exact HJ9, HWS, HZ9, HBP9, HBA9⟩, by rw [← HI.out]; simp [intOf]; omega⟩
          · cases hv
            have HJX := Lib.hid hJx9
            clear hy hr hJx9
            refine hK.out _ _ ?_
            clear hK K
            try simp only [Act.put, List.getElem_toArray, List.getElem_cons_succ, List.getElem_cons_zero, List.setIfInBounds_toArray, List.set_cons_zero, List.set_cons_succ]
            refine held_free (i := 17) (y := some 16) (v := ?_) (fun _ => trivial) (by kernel_rfl) rfl (fun z hz => by cases hz; decide) (by kernel_rfl) (by kernel_rfl) (by kernel_rfl) (fun _ _ _ h => h) (Or.inl ⟨by rfl, ?hy⟩) (by first | exact (fun _ => trivial) | exact (fun e => absurd ((e 16 rfl).symm.trans (show _ = true by kernel_rfl)) Bool.false_ne_true)) ?_
            case hy => intro wq hSw; go_simp; try with_reducible rfl
            try simp only [Act.put, List.getElem_toArray, List.getElem_cons_succ, List.getElem_cons_zero, List.setIfInBounds_toArray, List.set_cons_zero, List.set_cons_succ]
            refine held_free (i := 18) (y := some 16) (v := ?_) (fun _ => trivial) (by kernel_rfl) rfl (fun z hz => by cases hz; decide) (by kernel_rfl) (by kernel_rfl) (by kernel_rfl) (fun _ _ _ h => h) (Or.inl ⟨by rfl, ?hy⟩) (by first | exact (fun _ => trivial) | exact (fun e => absurd ((e 16 rfl).symm.trans (show _ = true by kernel_rfl)) Bool.false_ne_true)) ?_
            case hy => intro wq hSw; go_simp; try with_reducible rfl
            try simp only [Act.put, List.getElem_toArray, List.getElem_cons_succ, List.getElem_cons_zero, List.setIfInBounds_toArray, List.set_cons_zero, List.set_cons_succ]
            refine held_done (by kernel_rfl) ?_ _
            refine NoPanic.normal ?_
            gi_wp2
            refine bodyPost_ret (results_none rfl _ _ _) rfl ?_
            exact ⟨⟨_, rfl⟩, Or.inr ⟨_, trivial, HJX.out⟩⟩
      | none =>
        rw [hf] at hlk HST
        have HST : Hid (bksW f lo (j + 1) = bksW f lo j) := by rw [HST.out]; exact List.append_nil _
        clear hf hI
        have HOLDN := Lib.hid (fun o => HJ.out _ wy ((wy.alloc o).drew) none HJY.out ⟨rfl, rfl, rfl, by simp [World.drew], fun i hi _ => Below.heap_alloc wy _ i hi⟩ (by simp))
        unfold ctV at hlk
        simp only [Option.getD_none, Option.isSome_none, CntS.zero] at hlk
        gi_wp2
        have HLOW := Lib.hid (show ∀ i : Nat, i < wy.heap.size → (wy.alloc (.cells #[.int .i64 0, .int .i64 0, .int .i64 0, .int .i64 0, .int .i64 0, .int .i64 0] 32)).heap[i]? = wy.heap[i]? from fun i hi => Below.heap_alloc wy _ i hi)
        have HJN := Lib.hid (HOLDN.out (.cells #[.int .i64 0, .int .i64 0, .int .i64 0, .int .i64 0, .int .i64 0, .int .i64 0] 32))
        have HZA := Lib.hid (show wy.heap.size ≤ (wy.alloc (.cells #[.int .i64 0, .int .i64 0, .int .i64 0, .int .i64 0, .int .i64 0, .int .i64 0] 32)).drew.heap.size by simp [World.drew])
        refine wpIn_region_noPanic ?_
        refine held_region (y := some 16) (S := fun _ => True) (by kernel_rfl) trivial (fun _ => ?_)
        refine held_free (i := 0) (y := some 16) (v := ?_) (fun _ => trivial) (by kernel_rfl) rfl (fun z hz => by cases hz; decide) (by kernel_rfl) (by kernel_rfl) (by kernel_rfl) (fun _ _ _ h => h) (Or.inl ⟨by rfl, ?hy⟩) (by first | exact (fun _ => trivial) | exact (fun e => absurd ((e 16 rfl).symm.trans (show _ = true by kernel_rfl)) Bool.false_ne_true)) ?_
        case hy => intro wq hSw; go_simp; try with_reducible rfl
        try simp only [Act.put, List.getElem_toArray, List.getElem_cons_succ, List.getElem_cons_zero, List.setIfInBounds_toArray, List.set_cons_zero, List.set_cons_succ]
        refine held_free (i := 1) (y := some 16) (v := ?_) (fun _ => trivial) (by kernel_rfl) rfl (fun z hz => by cases hz; decide) (by kernel_rfl) (by kernel_rfl) (by kernel_rfl) (fun _ _ _ h => h) (Or.inl ⟨by rfl, ?hy⟩) (by first | exact (fun _ => trivial) | exact (fun e => absurd ((e 16 rfl).symm.trans (show _ = true by kernel_rfl)) Bool.false_ne_true)) ?_
        case hy => intro wq hSw; go_simp; try with_reducible rfl
        try simp only [Act.put, List.getElem_toArray, List.getElem_cons_succ, List.getElem_cons_zero, List.setIfInBounds_toArray, List.set_cons_zero, List.set_cons_succ]
        refine held_free (i := 2) (y := some 16) (v := undef) (fun _ => trivial) (by kernel_rfl) rfl (fun z hz => by cases hz; decide) (by kernel_rfl) (by kernel_rfl) (by kernel_rfl) (fun _ _ _ h => h) (Or.inr ⟨by rfl, rfl⟩) (fun _ => trivial) ?_
        try simp only [Act.put, List.getElem_toArray, List.getElem_cons_succ, List.getElem_cons_zero, List.setIfInBounds_toArray, List.set_cons_zero, List.set_cons_succ]
        refine held_free (i := 3) (y := some 16) (v := undef) (fun _ => trivial) (by kernel_rfl) rfl (fun z hz => by cases hz; decide) (by kernel_rfl) (by kernel_rfl) (by kernel_rfl) (fun _ _ _ h => h) (Or.inr ⟨by rfl, rfl⟩) (fun _ => trivial) ?_
        try simp only [Act.put, List.getElem_toArray, List.getElem_cons_succ, List.getElem_cons_zero, List.setIfInBounds_toArray, List.set_cons_zero, List.set_cons_succ]
        refine held_free (i := 4) (y := some 16) (v := undef) (fun _ => trivial) (by kernel_rfl) rfl (fun z hz => by cases hz; decide) (by kernel_rfl) (by kernel_rfl) (by kernel_rfl) (fun _ _ _ h => h) (Or.inr ⟨by rfl, rfl⟩) (fun _ => trivial) ?_
        try simp only [Act.put, List.getElem_toArray, List.getElem_cons_succ, List.getElem_cons_zero, List.setIfInBounds_toArray, List.set_cons_zero, List.set_cons_succ]
        refine held_free (i := 5) (y := some 16) (v := undef) (fun _ => trivial) (by kernel_rfl) rfl (fun z hz => by cases hz; decide) (by kernel_rfl) (by kernel_rfl) (by kernel_rfl) (fun _ _ _ h => h) (Or.inr ⟨by rfl, rfl⟩) (fun _ => trivial) ?_
        try simp only [Act.put, List.getElem_toArray, List.getElem_cons_succ, List.getElem_cons_zero, List.setIfInBounds_toArray, List.set_cons_zero, List.set_cons_succ]
        refine held_free (i := 6) (y := some 16) (v := undef) (fun _ => trivial) (by kernel_rfl) rfl (fun z hz => by cases hz; decide) (by kernel_rfl) (by kernel_rfl) (by kernel_rfl) (fun _ _ _ h => h) (Or.inr ⟨by rfl, rfl⟩) (fun _ => trivial) ?_
        try simp only [Act.put, List.getElem_toArray, List.getElem_cons_succ, List.getElem_cons_zero, List.setIfInBounds_toArray, List.set_cons_zero, List.set_cons_succ]
        refine held_free (i := 7) (y := some 16) (v := undef) (fun _ => trivial) (by kernel_rfl) rfl (fun z hz => by cases hz; decide) (by kernel_rfl) (by kernel_rfl) (by kernel_rfl) (fun _ _ _ h => h) (Or.inr ⟨by rfl, rfl⟩) (fun _ => trivial) ?_
        try simp only [Act.put, List.getElem_toArray, List.getElem_cons_succ, List.getElem_cons_zero, List.setIfInBounds_toArray, List.set_cons_zero, List.set_cons_succ]
        refine held_free (i := 8) (y := some 16) (v := undef) (fun _ => trivial) (by kernel_rfl) rfl (fun z hz => by cases hz; decide) (by kernel_rfl) (by kernel_rfl) (by kernel_rfl) (fun _ _ _ h => h) (Or.inr ⟨by rfl, rfl⟩) (fun _ => trivial) ?_
        try simp only [Act.put, List.getElem_toArray, List.getElem_cons_succ, List.getElem_cons_zero, List.setIfInBounds_toArray, List.set_cons_zero, List.set_cons_succ]
        refine held_free (i := 9) (y := some 16) (v := undef) (fun _ => trivial) (by kernel_rfl) rfl (fun z hz => by cases hz; decide) (by kernel_rfl) (by kernel_rfl) (by kernel_rfl) (fun _ _ _ h => h) (Or.inr ⟨by rfl, rfl⟩) (fun _ => trivial) ?_
        try simp only [Act.put, List.getElem_toArray, List.getElem_cons_succ, List.getElem_cons_zero, List.setIfInBounds_toArray, List.set_cons_zero, List.set_cons_succ]
        refine held_free (i := 10) (y := some 16) (v := undef) (fun _ => trivial) (by kernel_rfl) rfl (fun z hz => by cases hz; decide) (by kernel_rfl) (by kernel_rfl) (by kernel_rfl) (fun _ _ _ h => h) (Or.inr ⟨by rfl, rfl⟩) (fun _ => trivial) ?_
        try simp only [Act.put, List.getElem_toArray, List.getElem_cons_succ, List.getElem_cons_zero, List.setIfInBounds_toArray, List.set_cons_zero, List.set_cons_succ]
        refine held_free (i := 11) (y := some 16) (v := undef) (fun _ => trivial) (by kernel_rfl) rfl (fun z hz => by cases hz; decide) (by kernel_rfl) (by kernel_rfl) (by kernel_rfl) (fun _ _ _ h => h) (Or.inr ⟨by rfl, rfl⟩) (fun _ => trivial) ?_
        try simp only [Act.put, List.getElem_toArray, List.getElem_cons_succ, List.getElem_cons_zero, List.setIfInBounds_toArray, List.set_cons_zero, List.set_cons_succ]
        refine held_free (i := 12) (y := some 16) (v := undef) (fun _ => trivial) (by kernel_rfl) rfl (fun z hz => by cases hz; decide) (by kernel_rfl) (by kernel_rfl) (by kernel_rfl) (fun _ _ _ h => h) (Or.inr ⟨by rfl, rfl⟩) (fun _ => trivial) ?_
        try simp only [Act.put, List.getElem_toArray, List.getElem_cons_succ, List.getElem_cons_zero, List.setIfInBounds_toArray, List.set_cons_zero, List.set_cons_succ]
        refine held_free (i := 13) (y := some 16) (v := undef) (fun _ => trivial) (by kernel_rfl) rfl (fun z hz => by cases hz; decide) (by kernel_rfl) (by kernel_rfl) (by kernel_rfl) (fun _ _ _ h => h) (Or.inr ⟨by rfl, rfl⟩) (fun _ => trivial) ?_
        try simp only [Act.put, List.getElem_toArray, List.getElem_cons_succ, List.getElem_cons_zero, List.setIfInBounds_toArray, List.set_cons_zero, List.set_cons_succ]
        refine held_free (i := 14) (y := some 16) (v := undef) (fun _ => trivial) (by kernel_rfl) rfl (fun z hz => by cases hz; decide) (by kernel_rfl) (by kernel_rfl) (by kernel_rfl) (fun _ _ _ h => h) (Or.inr ⟨by rfl, rfl⟩) (fun _ => trivial) ?_
        try simp only [Act.put, List.getElem_toArray, List.getElem_cons_succ, List.getElem_cons_zero, List.setIfInBounds_toArray, List.set_cons_zero, List.set_cons_succ]
        refine held_free (i := 15) (y := some 16) (v := undef) (fun _ => trivial) (by kernel_rfl) rfl (fun z hz => by cases hz; decide) (by kernel_rfl) (by kernel_rfl) (by kernel_rfl) (fun _ _ _ h => h) (Or.inr ⟨by rfl, rfl⟩) (fun _ => trivial) ?_
        try simp only [Act.put, List.getElem_toArray, List.getElem_cons_succ, List.getElem_cons_zero, List.setIfInBounds_toArray, List.set_cons_zero, List.set_cons_succ]
        refine held_skip (y := 16) (fun _ => trivial) (by kernel_rfl) rfl (by kernel_rfl) (by rfl) ?_
        try simp only [Act.put, List.getElem_toArray, List.getElem_cons_succ, List.getElem_cons_zero, List.setIfInBounds_toArray, List.set_cons_zero, List.set_cons_succ]
        refine held_free (i := 17) (y := some 16) (v := undef) (fun _ => trivial) (by kernel_rfl) rfl (fun z hz => by cases hz; decide) (by kernel_rfl) (by kernel_rfl) (by kernel_rfl) (fun _ _ _ h => h) (Or.inr ⟨by rfl, rfl⟩) (fun _ => trivial) ?_
        try simp only [Act.put, List.getElem_toArray, List.getElem_cons_succ, List.getElem_cons_zero, List.setIfInBounds_toArray, List.set_cons_zero, List.set_cons_succ]
        refine held_free (i := 18) (y := some 16) (v := ?_) (fun _ => trivial) (by kernel_rfl) rfl (fun z hz => by cases hz; decide) (by kernel_rfl) (by kernel_rfl) (by kernel_rfl) (fun _ _ _ h => h) (Or.inl ⟨by rfl, ?hy⟩) (by first | exact (fun _ => trivial) | exact (fun e => absurd ((e 16 rfl).symm.trans (show _ = true by kernel_rfl)) Bool.false_ne_true)) ?_
        case hy => intro wq hSw; go_simp; try with_reducible rfl
        try simp only [Act.put, List.getElem_toArray, List.getElem_cons_succ, List.getElem_cons_zero, List.setIfInBounds_toArray, List.set_cons_zero, List.set_cons_succ]
        refine held_done (by kernel_rfl) ?_ _
        refine NoPanic.normal ?_
        have hws : WinAt (wy.alloc (.cells #[.int .i64 0, .int .i64 0, .int .i64 0, .int .i64 0, .int .i64 0, .int .i64 0] 32)).drew p m W B last f := HWY.out.kept (HLOW.out p HWY.out.lt.1) (HLOW.out m HWY.out.lt.2)
        have HWS := Lib.hid hws
        have HBP9 := Lib.hid (show (wy.alloc (.cells #[.int .i64 0, .int .i64 0, .int .i64 0, .int .i64 0, .int .i64 0, .int .i64 0] 32)).drew.cell? ⟨bp, 0, none⟩ = some (.pointer (some ⟨p, 0, none⟩)) from (World.cell?_of_block (w := wy) (a := ⟨bp, 0, none⟩) (HLOW.out bp (World.block_lt_of_cell? wy _ HCPY.out))).trans HCPY.out)
        have HBA9 := Lib.hid (show (wy.alloc (.cells #[.int .i64 0, .int .i64 0, .int .i64 0, .int .i64 0, .int .i64 0, .int .i64 0] 32)).drew.cell? ⟨ba, 0, none⟩ = some (.int .i64 at_) from (World.cell?_of_block (w := wy) (a := ⟨ba, 0, none⟩) (HLOW.out ba (World.block_lt_of_cell? wy _ HCAY.out))).trans HCAY.out)
        clear hws
        gi_wp2
        exact ⟨⟨j + 1, by omega, by rw [← HI.out]; simp; omega, by rw [HST.out]; exact HJN, HWS, Lib.hid (Nat.le_trans HZY.out HZA.out), HBP9, HBA9⟩, by rw [← HI.out]; simp [intOf]; omega⟩
    · have hle : ¬ lo + j ≤ K := by omega
      have e1 : j = cnt := by omega
      rw [e1] at HJY
      clear e1
      gi_wp2
      go_end0
      exact ⟨⟨_, rfl⟩, Or.inl HJY.out⟩
end Go.Proofs.Ytpbbidijnmooaaa
