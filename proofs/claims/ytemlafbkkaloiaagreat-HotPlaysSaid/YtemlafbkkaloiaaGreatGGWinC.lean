import Derived.Laws.AppendOwn
import Derived.Test.YtemlafbkkaloiaaGreatGGWinB
import Derived.Test.YtemlafbkkaloiaaGreatRing
namespace Go.Proofs.YtemlafbkkaloiaaGreat
open Go.RowKit
set_option linter.unusedVariables false
set_option linter.unusedSimpArgs false
def CtsAt (w : World) (a : Option Addr) (cs : List CntS) : Prop :=
  cs = [] ∨ ∃ b off, a = some ⟨b, off, none⟩ ∧ b < w.heap.size ∧ ∀ j c, cs[j]? = some c → w.cell? ⟨b, off + j * 6, none⟩ = some (.int .i64 c.p) ∧ w.cell? ⟨b, off + j * 6 + 1, none⟩ = some (.int .i64 c.b) ∧ w.cell? ⟨b, off + j * 6 + 2, none⟩ = some (.int .i64 c.d) ∧
    w.cell? ⟨b, off + j * 6 + 3, none⟩ = some (.int .i64 c.e) ∧ w.cell? ⟨b, off + j * 6 + 4, none⟩ = some (.int .i64 c.r) ∧ w.cell? ⟨b, off + j * 6 + 5, none⟩ = some (.int .i64 c.m)
theorem CtsAt.kept {w w' : World} {a : Option Addr} {cs : List CntS} (h : CtsAt w a cs) (hz : w.heap.size ≤ w'.heap.size) (hk : ∀ b off, a = some ⟨b, off, none⟩ → w'.heap[b]? = w.heap[b]?) : CtsAt w' a cs := by
  rcases h with h | ⟨b, off, rfl, hlt, hc⟩
  · exact Or.inl h
  · have e := hk b off rfl
    refine Or.inr ⟨b, off, rfl, by omega, fun j c hj => ?_⟩
    obtain ⟨h0, h1, h2, h3, h4, h5⟩ := hc j c hj
    exact ⟨(World.cell?_of_block (w := w) (a := ⟨b, _, none⟩) e).trans h0, (World.cell?_of_block (w := w) (a := ⟨b, _, none⟩) e).trans h1, (World.cell?_of_block (w := w) (a := ⟨b, _, none⟩) e).trans h2,
      (World.cell?_of_block (w := w) (a := ⟨b, _, none⟩) e).trans h3, (World.cell?_of_block (w := w) (a := ⟨b, _, none⟩) e).trans h4, (World.cell?_of_block (w := w) (a := ⟨b, _, none⟩) e).trans h5⟩
theorem CtsAt.below {w w' : World} {a : Option Addr} {cs : List CntS} (h : CtsAt w a cs) (hb : Below w.heap.size w w') : CtsAt w' a cs := by
  rcases h with h | ⟨b, off, rfl, hlt, hc⟩
  · exact Or.inl h
  · exact CtsAt.kept (Or.inr ⟨b, off, rfl, hlt, hc⟩) hb.size (fun b' off' e => by cases e; exact hb.block b hlt)
def sixC (w : World) (g : Nat) (p b d e r m : Int) : World :=
  (((((w.setCell ⟨g, 0, none⟩ (.int .i64 p)).setCell ⟨g, 1, none⟩ (.int .i64 b)).setCell ⟨g, 2, none⟩ (.int .i64 d)).setCell ⟨g, 3, none⟩ (.int .i64 e)).setCell ⟨g, 4, none⟩ (.int .i64 r)).setCell ⟨g, 5, none⟩ (.int .i64 m)
theorem sixC_same {w : World} {g : Nat} {c : CntS} {t : TypeId} (h : w.heap[g]? = some (ctO c t)) (p b d e r m : Int) : (sixC w g p b d e r m).heap[g]? = some (ctO ⟨p, b, d, e, r, m⟩ t) :=
  heap_setCell_same _ _ 5 _ _ _ (heap_setCell_same _ _ 4 _ _ _ (heap_setCell_same _ _ 3 _ _ _ (heap_setCell_same _ _ 2 _ _ _ (heap_setCell_same _ _ 1 _ _ _ (heap_setCell_same _ _ 0 _ _ _ h)))))
theorem sixC_other {w : World} {g i : Nat} (h : i ≠ g) (p b d e r m : Int) : (sixC w g p b d e r m).heap[i]? = w.heap[i]? := by
  unfold sixC
  rw [heap_setCell_other _ _ i _ h, heap_setCell_other _ _ i _ h, heap_setCell_other _ _ i _ h, heap_setCell_other _ _ i _ h, heap_setCell_other _ _ i _ h, heap_setCell_other _ _ i _ h]
theorem sixC_below {B : Nat} {a w : World} {g : Nat} (hb : Below B a w) (h : B ≤ g) (p b d e r m : Int) : Below B a (sixC w g p b d e r m) :=
  (((((hb.setCell h _).setCell h _).setCell h _).setCell h _).setCell h _).setCell h _
theorem sixC_size (w : World) (g : Nat) (p b d e r m : Int) : (sixC w g p b d e r m).heap.size = w.heap.size := by simp [sixC, World.setCell]
theorem ct_cells {w : World} {g : Nat} {c : CntS} {t : TypeId} (h : w.heap[g]? = some (ctO c t)) : (w.cell? ⟨g, 0, none⟩ = some (.int .i64 c.p) ∧ w.cell? ⟨g, 1, none⟩ = some (.int .i64 c.b) ∧ w.cell? ⟨g, 2, none⟩ = some (.int .i64 c.d) ∧
    w.cell? ⟨g, 3, none⟩ = some (.int .i64 c.e) ∧ w.cell? ⟨g, 4, none⟩ = some (.int .i64 c.r) ∧ w.cell? ⟨g, 5, none⟩ = some (.int .i64 c.m)) ∧ ∀ j, w.frozen? ⟨g, j, none⟩ = false := by
  refine ⟨?_, fun j => by simp [World.frozen?, h, ctO]⟩
  simp only [World.cell?, h, ctO]
  exact ⟨rfl, rfl, rfl, rfl, rfl, rfl⟩
theorem joinC_snoc (s : CntS) (l : List CntS) (c : CntS) : joinC s (l ++ [c]) = twoC (joinC s l) c := by simp [joinC, List.foldl_append]
theorem twoC_right {x y : CntS} (hx : RightC x) (hy : RightC y) : RightC (twoC x y) := by
  have := imgC_right ((rawOk_of hx).add (rawOk_of hy))
  rw [← twoC_img (rawOk_of hx) (rawOk_of hy), imgC_raw hx, imgC_raw hy] at this
  exact this
theorem joinC_right {s : CntS} (hs : RightC s) : ∀ {l : List CntS}, (∀ c, c ∈ l → RightC c) → RightC (joinC s l)
  | [], _ => hs
  | c :: l, h => joinC_right (twoC_right hs (h c (by simp))) (fun x hx => h x (by simp [hx]))
set_option maxHeartbeats 6400000 in
set_option maxRecDepth 100000 in
theorem wjoin_any (w : World) (a : Option Addr) (len cap : Nat) (cs : List CntS) (hl : cs.length = len) (hm : len ≤ 9223372036854775807) (hr : ∀ c, c ∈ cs → RightC c) (hc : CtsAt w a cs) :
    Calls Tryz.prog 75 #[.slice a len cap] w fun e w' => e = .returned (ctV (joinC .zero cs)) ∧ Below w.heap.size w w' := by
  have HC := Lib.hid hc
  have HR := Lib.hid hr
  have HL := Lib.hid hl
  obtain ⟨N, hN⟩ : ∃ N, N = w.heap.size := ⟨_, rfl⟩
  have HN := Lib.hid hN
  have hb0 : Below w.heap.size w ((w.alloc (ctO .zero 92)).alloc (ctO .zero 92)) := ((Below.refl _ _).alloc (Nat.le_refl _) _).alloc (by simp) _
  have hg0 : ((w.alloc (ctO .zero 92)).alloc (ctO .zero 92)).heap[N]? = some (ctO .zero 92) := by
    rw [hN, get_allocW, if_neg (by simp), get_allocW, if_pos rfl]
  have hg1 : ((w.alloc (ctO .zero 92)).alloc (ctO .zero 92)).heap[N + 1]? = some (ctO .zero 92) := by
    rw [hN, get_allocW, if_pos (by simp)]
  have HB0 := Lib.hid hb0
  have HG0 := Lib.hid hg0
  have HG1 := Lib.hid hg1
  clear hc hr hl hb0 hg0 hg1
  go_enter Tryz.func75, Tryz.ntmps75
  go_wp2_with (fail)
  rw [← hN]
  clear hN
  obtain ⟨w0, hw0⟩ : ∃ w0, (w.alloc (ctO .zero 92)).alloc (ctO .zero 92) = w0 := ⟨_, rfl⟩
  rw [hw0] at HB0 HG0 HG1
  unfold ctO CntS.zero at hw0
  dsimp only at hw0
  rw [hw0]
  clear hw0
  go_loopw [5, 8] (fun _ i wr => ∃ (k : Nat), k ≤ len ∧ i = .int .i64 k ∧ Hid (wr.heap[N]? = some (ctO .zero 92)) ∧ Hid (wr.heap[N + 1]? = some (ctO (joinC .zero (cs.take k)) 92)) ∧ Hid (Below w.heap.size w wr)) (fun _ i _ => len - (intOf i).toNat)
  case atStart => exact ⟨0, Nat.zero_le _, rfl, HG0, HG1, HB0⟩
  case round =>
    rename World => wy
    obtain ⟨k, hk, rfl, HA, HJ, HB⟩ := hrel
    by_cases hlt : k < len
    · have hkl : k < cs.length := by rw [HL.out]; exact hlt
      have k0 : (0 : Int) ≤ k := by omega
      have k1 : (k : Int) < len := by omega
      obtain ⟨c, hcx⟩ : ∃ c, cs[k]? = some c := ⟨_, List.getElem?_eq_getElem hkl⟩
      have hcm : c ∈ cs := List.mem_of_getElem? hcx
      have hrc := HR.out c hcm
      obtain ⟨bk, off, ha, hbl, hcc⟩ : ∃ b off, a = some ⟨b, off, none⟩ ∧ b < w.heap.size ∧ ∀ j c, cs[j]? = some c → w.cell? ⟨b, off + j * 6, none⟩ = some (.int .i64 c.p) ∧ w.cell? ⟨b, off + j * 6 + 1, none⟩ = some (.int .i64 c.b) ∧ w.cell? ⟨b, off + j * 6 + 2, none⟩ = some (.int .i64 c.d) ∧
          w.cell? ⟨b, off + j * 6 + 3, none⟩ = some (.int .i64 c.e) ∧ w.cell? ⟨b, off + j * 6 + 4, none⟩ = some (.int .i64 c.r) ∧ w.cell? ⟨b, off + j * 6 + 5, none⟩ = some (.int .i64 c.m) := by
        rcases HC.out with h | h
        · rw [h] at hkl; simp at hkl
        · exact h
      subst ha
      obtain ⟨d0, d1, d2, d3, d4, d5⟩ := hcc k c hcx
      have d0 := (HB.out.cell (p := ⟨bk, off + k * 6, none⟩) hbl).trans d0
      have d1 := (HB.out.cell (p := ⟨bk, off + k * 6 + 1, none⟩) hbl).trans d1
      have d2 := (HB.out.cell (p := ⟨bk, off + k * 6 + 2, none⟩) hbl).trans d2
      have d3 := (HB.out.cell (p := ⟨bk, off + k * 6 + 3, none⟩) hbl).trans d3
      have d4 := (HB.out.cell (p := ⟨bk, off + k * 6 + 4, none⟩) hbl).trans d4
      have d5 := (HB.out.cell (p := ⟨bk, off + k * 6 + 5, none⟩) hbl).trans d5
      have hjr : RightC (joinC .zero (cs.take k)) := joinC_right rightC_zero (fun x hx => HR.out x (List.mem_of_mem_take hx))
      have HST := Lib.hid (show joinC .zero (cs.take (k + 1)) = twoC (joinC .zero (cs.take k)) c by
        rw [List.take_succ_eq_append_getElem hkl, joinC_snoc]
        congr 1
        exact Option.some.inj ((List.getElem?_eq_getElem hkl).symm.trans hcx))
      generalize joinC .zero (cs.take k) = J at *
      have HRT := Lib.hid (fun wx => wright_any c hrc wx)
      have HTW := Lib.hid (fun wx => wtwo_any J c hjr hrc wx)
      have hzy : N + 1 < wy.heap.size := (Array.getElem?_eq_some_iff.1 HJ.out).1
      have hba : Below wy.heap.size wy (wy.alloc (ctO c 92)) := (Below.refl _ _).alloc (Nat.le_refl _) _
      have hnew := get_allocW wy (ctO c 92) wy.heap.size
      rw [if_pos rfl] at hnew
      have HBA := Lib.hid hba
      have HNEW := Lib.hid hnew
      clear hcx hcc hcm hrc hjr hba hnew
      obtain ⟨cp, cb, cd, ce, cr, cm⟩ := c
      obtain ⟨jp, jb, jd, je, jr, jm⟩ := J
      have HTV := Lib.hid (show ctV (twoC ⟨jp, jb, jd, je, jr, jm⟩ ⟨cp, cb, cd, ce, cr, cm⟩) = ctV (twoC ⟨jp, jb, jd, je, jr, jm⟩ ⟨cp, cb, cd, ce, cr, cm⟩) from rfl)
      generalize twoC ⟨jp, jb, jd, je, jr, jm⟩ ⟨cp, cb, cd, ce, cr, cm⟩ = T at *
      obtain ⟨tp, tb, td, te, tr, tm⟩ := T
      clear HTV
      unfold ctV at HRT HTW
      unfold ctO at HBA HNEW
      dsimp only at *
      go_wp2_with (fail)
      refine (HRT.out _).mono ?_
      rintro e w1 ⟨rfl, h1⟩
      have hb1 := HBA.out.trans (h1.mono HBA.out.size)
      have hE := (h1.block wy.heap.size (by simp)).trans HNEW.out
      have hJ1 := (hb1.block (N + 1) hzy).trans HJ.out
      have HJ1 := Lib.hid hJ1
      have HB1 := Lib.hid hb1
      obtain ⟨⟨a0, a1, a2, a3, a4, a5⟩, af⟩ := ct_cells (c := ⟨cp, cb, cd, ce, cr, cm⟩) hE
      obtain ⟨⟨b0, b1, b2, b3, b4, b5⟩, bf⟩ := ct_cells hJ1
      dsimp only at a0 a1 a2 a3 a4 a5 b0 b1 b2 b3 b4 b5
      clear h1 hb1 hE hJ1 af
      go_wp2_with (fail)
      refine (HTW.out _).mono ?_
      rintro e w2 ⟨rfl, h2⟩
      have hz1 := HB1.out.size
      have hJ2 := (h2.block (N + 1) (by omega)).trans HJ1.out
      have hb2 := HB1.out.trans (h2.mono hz1)
      have HB2 := Lib.hid hb2
      have HJ2 := Lib.hid hJ2
      obtain ⟨⟨c0, c1, c2, c3, c4, c5⟩, cf⟩ := ct_cells hJ2
      clear h2 hb2 hJ2 bf
      go_wp2_with (fail)
      refine ⟨⟨k + 1, by omega, by go_num, ?_, ?_, ?_⟩, by first | (simp [intOf]; done) | (simp [intOf]; omega)⟩
      · exact Lib.hid ((sixC_other (by omega) tp tb td te tr tm).trans ((HB2.out.block N (by omega)).trans HA.out))
      · rw [HST.out]
        exact Lib.hid (sixC_same HJ2.out tp tb td te tr tm)
      · exact Lib.hid (sixC_below (HB.out.trans (HB2.out.mono HB.out.size)) (by rw [← HN.out]; omega) tp tb td te tr tm)
    · have k1 : ¬ (k : Int) < len := by omega
      have e1 : cs.take k = cs := List.take_of_length_le (by rw [HL.out]; omega)
      rw [e1] at HJ
      clear e1
      obtain ⟨J, hJJ⟩ : ∃ J, joinC .zero cs = J := ⟨_, rfl⟩
      have HJJ := Lib.hid hJJ
      rw [hJJ] at HJ
      clear hJJ
      obtain ⟨jp, jb, jd, je, jr, jm⟩ := J
      obtain ⟨⟨b0, b1, b2, b3, b4, b5⟩, bf⟩ := ct_cells HJ.out
      obtain ⟨⟨c0, c1, c2, c3, c4, c5⟩, cf⟩ := ct_cells HA.out
      go_wp2_with (fail)
      refine bodyPost_ret (results_cell_row (P := Tryz.prog) rfl _ _ N 92 #[.int .i64 jp, .int .i64 jb, .int .i64 jd, .int .i64 je, .int .i64 jr, .int .i64 jm] (0, 0) _ (by rfl) ?hh Tryz.underlying92 rfl (by kernel_rfl)) rfl ?_
      case hh => exact sixC_same HA.out jp jb jd je jr jm
      exact ⟨by rw [HJJ.out]; rfl, sixC_below HB.out (by rw [← HN.out]; omega) jp jb jd je jr jm⟩
end Go.Proofs.YtemlafbkkaloiaaGreat
