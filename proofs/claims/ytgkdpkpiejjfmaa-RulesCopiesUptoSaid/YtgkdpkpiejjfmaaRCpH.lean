/- rules.Join: the walk. -/
import Derived.Test.YtgkdpkpiejjfmaaRCpG
namespace Go.Proofs.Ytgkdpkpiejjfmaa
open Go.RowKit
set_option linter.unusedVariables false
set_option linter.unusedSimpArgs false

theorem ownsG {w : World} {b0 b1 size n : Nat} {e : TypeId} {v : Value} {xs : List Value} (h : w.ownsRow b1 e size v n xs) (hb : b0 ≤ b1) : w.ownsRow b0 e size v n xs := by
  refine ⟨h.1, ?_⟩
  rcases h.2 with h2 | ⟨g, cap, cur, h1, h2, h3⟩
  · exact Or.inl h2
  · exact Or.inr ⟨g, cap, cur, h1, Nat.le_trans hb h2, h3⟩
theorem grown_ofG {w w' : World} (h : Below w.heap.size w w') : w.grownBy w' none := ⟨h.os, h.tape, h.output, h.size, fun k hk _ => h.block k hk⟩
theorem hot_clone {w1 : World} {base B RB : Nat} {X : Obj} {v0 v1 v2 v3 v4 : Value} {fl : List FlowS} {br : List BreakS} {ho : List HotS} {sy : List SysR} {au : List AuthS} {w w4 : World} (h : JoinI w1 base B v0 v1 v2 v3 v4 fl br ho sy au w) (y : HotS) (ok : HotOk w y) (hrb : w.heap[RB]? = some X) {ya : Option Addr} {yc : Nat} (hown4 : w4.ownsRow (w.alloc (hotbO y)).heap.size 46 2 (.slice ya y.il yc) y.il ((y.items.map ItemS.cs).flatten)) (hb4 : Below (w.alloc (hotbO y)).heap.size (w.alloc (hotbO y)) w4) :
    (w4.frozen? ⟨w.heap.size, 4, none⟩ = false ∧ w4.cell? ⟨w.heap.size, 4, none⟩ = some (.slice y.ia y.il y.ic)) ∧ JoinI w1 base B v0 v1 v2 v3 v4 fl br ho sy au (w4.setCell ⟨w.heap.size, 4, none⟩ (.slice ya y.il yc)) ∧ ((w4.setCell ⟨w.heap.size, 4, none⟩ (.slice ya y.il yc)).cell? ⟨w.heap.size, 0, none⟩ = some (.string y.res) ∧ (w4.setCell ⟨w.heap.size, 4, none⟩ (.slice ya y.il yc)).cell? ⟨w.heap.size, 1, none⟩ = some (.int .i64 y.idx) ∧ (w4.setCell ⟨w.heap.size, 4, none⟩ (.slice ya y.il yc)).cell? ⟨w.heap.size, 2, none⟩ = some (.int .i64 y.cnt) ∧ (w4.setCell ⟨w.heap.size, 4, none⟩ (.slice ya y.il yc)).cell? ⟨w.heap.size, 3, none⟩ = some (.int .i64 y.secs) ∧ (w4.setCell ⟨w.heap.size, 4, none⟩ (.slice ya y.il yc)).cell? ⟨w.heap.size, 4, none⟩ = some (.slice ya y.il yc)) ∧ HotOwn (w4.setCell ⟨w.heap.size, 4, none⟩ (.slice ya y.il yc)) base ⟨y.res, y.idx, y.cnt, y.secs, ya, y.il, yc, y.items⟩ ∧ (w4.setCell ⟨w.heap.size, 4, none⟩ (.slice ya y.il yc)).heap[RB]? = some X := by
  obtain ⟨a, b, c, d⟩ := join_hotb h y ok rfl (ownsG hown4 (Nat.le_trans h.bs (by simp))) (grown_ofG hb4)
  refine ⟨a, b, c, d, ?_⟩
  have hR := (Array.getElem?_eq_some_iff.1 hrb).1
  rw [heap_setCell_other _ _ _ _ (show RB ≠ w.heap.size by omega), hb4.block RB (by simp; omega), get_allocC, if_neg (by omega)]
  exact hrb
theorem aut_clone {w1 : World} {base B RB : Nat} {X : Obj} {v0 v1 v2 v3 v4 : Value} {fl : List FlowS} {br : List BreakS} {ho : List HotS} {sy : List SysR} {au : List AuthS} {w w4 : World} (h : JoinI w1 base B v0 v1 v2 v3 v4 fl br ho sy au w) (y : AuthS) (ok : AuthOk w y) (hrb : w.heap[RB]? = some X) {ya : Option Addr} {yc : Nat} (hown4 : w4.ownsRow (w.alloc (autbO y)).heap.size 9 1 (.slice ya y.ol yc) y.ol (y.orig.map Value.string)) (hb4 : Below (w.alloc (autbO y)).heap.size (w.alloc (autbO y)) w4) :
    (w4.frozen? ⟨w.heap.size, 2, none⟩ = false ∧ w4.cell? ⟨w.heap.size, 2, none⟩ = some (.slice y.oa y.ol y.oc)) ∧ JoinI w1 base B v0 v1 v2 v3 v4 fl br ho sy au (w4.setCell ⟨w.heap.size, 2, none⟩ (.slice ya y.ol yc)) ∧ ((w4.setCell ⟨w.heap.size, 2, none⟩ (.slice ya y.ol yc)).cell? ⟨w.heap.size, 0, none⟩ = some (.string y.res) ∧ (w4.setCell ⟨w.heap.size, 2, none⟩ (.slice ya y.ol yc)).cell? ⟨w.heap.size, 1, none⟩ = some (.bool y.white) ∧ (w4.setCell ⟨w.heap.size, 2, none⟩ (.slice ya y.ol yc)).cell? ⟨w.heap.size, 2, none⟩ = some (.slice ya y.ol yc)) ∧ AuthOwn (w4.setCell ⟨w.heap.size, 2, none⟩ (.slice ya y.ol yc)) base ⟨y.res, y.white, ya, y.ol, yc, y.orig⟩ ∧ (w4.setCell ⟨w.heap.size, 2, none⟩ (.slice ya y.ol yc)).heap[RB]? = some X := by
  obtain ⟨a, b, c, d⟩ := join_autb h y ok rfl (ownsG hown4 (Nat.le_trans h.bs (by simp))) (grown_ofG hb4)
  refine ⟨a, b, c, d, ?_⟩
  have hR := (Array.getElem?_eq_some_iff.1 hrb).1
  rw [heap_setCell_other _ _ _ _ (show RB ≠ w.heap.size by omega), hb4.block RB (by simp; omega), get_allocC, if_neg (by omega)]
  exact hrb
theorem hot_app {w1 : World} {base B RB : Nat} {xs : Array Value} {v0 v1 v2 v3 v4 : Value} {fl : List FlowS} {br : List BreakS} {ho : List HotS} {sy : List SysR} {au : List AuthS} {w w5 : World} {v' : Value} (h : JoinI w1 base B v0 v1 v2 v3 v4 fl br ho sy au w) (y : HotS) (o : Obj) (hown5 : w5.ownsRow base 44 5 v' (ho.length + 1) ((ho.map HotS.cs).flatten ++ y.cs)) (hg5 : (w.alloc o).grownBy w5 v2.ownBlock) (hy : HotOwn w base y) (hrb : w.heap[RB]? = some (.cells xs 28)) (hne : RB ≠ B) :
    (w5.frozen? ⟨B, 2, none⟩ = false ∧ w5.cell? ⟨B, 2, none⟩ = some v2) ∧ JoinI w1 base B v0 v1 v' v3 v4 fl br (ho ++ [y]) sy au (w5.setCell ⟨B, 2, none⟩ v') ∧ (w5.setCell ⟨B, 2, none⟩ v').heap[RB]? = some (.cells xs 28) := by
  obtain ⟨a, b⟩ := join_hotb2 h y o hown5 hg5 hy
  refine ⟨a, b, ?_⟩
  have hR := (Array.getElem?_eq_some_iff.1 hrb).1
  rw [heap_setCell_other _ _ _ _ hne, hg5.block RB (by simp; omega) (fun e => by have h1 := (typeAt_own h.r2 e.symm).1; unfold typeAt at h1; rw [hrb] at h1; exact absurd (Option.some.inj h1) (by decide)), get_allocC, if_neg (by omega)]
  exact hrb
theorem aut_app {w1 : World} {base B RB : Nat} {xs : Array Value} {v0 v1 v2 v3 v4 : Value} {fl : List FlowS} {br : List BreakS} {ho : List HotS} {sy : List SysR} {au : List AuthS} {w w5 : World} {v' : Value} (h : JoinI w1 base B v0 v1 v2 v3 v4 fl br ho sy au w) (y : AuthS) (o : Obj) (hown5 : w5.ownsRow base 48 3 v' (au.length + 1) ((au.map AuthS.cs).flatten ++ y.cs)) (hg5 : (w.alloc o).grownBy w5 v4.ownBlock) (hy : AuthOwn w base y) (hrb : w.heap[RB]? = some (.cells xs 28)) (hne : RB ≠ B) :
    (w5.frozen? ⟨B, 4, none⟩ = false ∧ w5.cell? ⟨B, 4, none⟩ = some v4) ∧ JoinI w1 base B v0 v1 v2 v3 v' fl br ho sy (au ++ [y]) (w5.setCell ⟨B, 4, none⟩ v') ∧ (w5.setCell ⟨B, 4, none⟩ v').heap[RB]? = some (.cells xs 28) := by
  obtain ⟨a, b⟩ := join_autb2 h y o hown5 hg5 hy
  refine ⟨a, b, ?_⟩
  have hR := (Array.getElem?_eq_some_iff.1 hrb).1
  rw [heap_setCell_other _ _ _ _ hne, hg5.block RB (by simp; omega) (fun e => by have h1 := (typeAt_own h.r4 e.symm).1; unfold typeAt at h1; rw [hrb] at h1; exact absurd (Option.some.inj h1) (by decide)), get_allocC, if_neg (by omega)]
  exact hrb

set_option maxHeartbeats 25600000 in
set_option maxRecDepth 100000 in
theorem pjoin_any {w : World} {ls : List RulesS} (la : Option Addr) (n lc : Nat) (hn : ls.length = n) (hm : n ≤ 1000) (hl : RowsAt w la 5 (ls.map fun r => r.cs.toList)) (hr : ∀ r ∈ ls, RulesAt w r)
    (s0 : (ls.flatMap (·.fl)).length * 120 ≤ 140737488351232) (s1 : (ls.flatMap (·.br)).length * 64 ≤ 140737488351232) (s2 : (ls.flatMap (·.ho)).length * 64 ≤ 140737488351232) (s3 : (ls.flatMap (·.sy)).length * 40 ≤ 140737488351232) (s4 : (ls.flatMap (·.au)).length * 48 ≤ 140737488351232) :
    Calls Try.prog 5 #[.slice la n lc] w (JoinP w ls) := by
  obtain ⟨ifli, ifl0, ifl1, ifl2, ifl3⟩ := info_partsO info_flJ
  obtain ⟨ibri, ibr0, ibr1, ibr2, ibr3⟩ := info_partsO info_brJ
  obtain ⟨ihoi, iho0, iho1, iho2, iho3⟩ := info_partsO info_hoJ
  obtain ⟨isyi, isy0, isy1, isy2, isy3⟩ := info_partsO info_syJ
  obtain ⟨iaui, iau0, iau1, iau2, iau3⟩ := info_partsO info_auJ
  obtain ⟨iiti, iit0, iit1, iit2, iit3⟩ := info_partsO info_itJ
  obtain ⟨isti, ist0, ist1, ist2, ist3⟩ := info_partsO info_stJ
  have HNL := Lib.hid hn
  have HLS := Lib.hid hl
  have HRS := Lib.hid hr
  have HT0 := Lib.hid s0
  have HT1 := Lib.hid s1
  have HT2 := Lib.hid s2
  have HT3 := Lib.hid s3
  have HT4 := Lib.hid s4
  have HST := Lib.hid (join_start w)
  have HW1 := Lib.hid (show Below w.heap.size w (w.alloc (.cells #[.slice none 0 0, .slice none 0 0, .slice none 0 0, .slice none 0 0, .slice none 0 0] 28)) from (Below.refl _ _).alloc (Nat.le_refl _) _)
  have HWZ := Lib.hid (show (w.alloc (.cells #[.slice none 0 0, .slice none 0 0, .slice none 0 0, .slice none 0 0, .slice none 0 0] 28)).heap.size = w.heap.size + 1 by simp)
  have HWC := Lib.hid (show (w.alloc (.cells #[.slice none 0 0, .slice none 0 0, .slice none 0 0, .slice none 0 0, .slice none 0 0] 28)).heap[w.heap.size]? = some (.cells #[.slice none 0 0, .slice none 0 0, .slice none 0 0, .slice none 0 0, .slice none 0 0] 28) by rw [get_allocB, if_pos rfl])
  clear hn hl hr s0 s1 s2 s3 s4
  go_enter Try.func5, Try.ntmps5
  go_wp2_with (fail)
  obtain ⟨B, hB⟩ : ∃ B, w.heap.size + 1 = B := ⟨_, rfl⟩
  obtain ⟨base, hbase⟩ : ∃ base, w.heap.size + 2 = base := ⟨_, rfl⟩
  rw [hB, hbase] at HST
  rw [hB]
  have HBB := Lib.hid (show w.heap.size + 1 = B ∧ w.heap.size + 2 = base from ⟨hB, hbase⟩)
  clear hB hbase
  generalize w.alloc (.cells #[.slice none 0 0, .slice none 0 0, .slice none 0 0, .slice none 0 0, .slice none 0 0] 28) = w1 at *
  generalize w1.alloc _ = W at *
  go_loopw [5, 7, 9, 12] (fun _ _ _ s4 wr => ∃ (i : Nat) (v0 v1 v2 v3 v4 : Value) (ho : List HotS) (au : List AuthS), i ≤ n ∧ s4 = .int .i64 i ∧ Hid (JoinI w1 base B v0 v1 v2 v3 v4 ((ls.take i).flatMap (·.fl)) ((ls.take i).flatMap (·.br)) ho ((ls.take i).flatMap (·.sy)) au wr) ∧ Hid (ho.map HotS.core = ((ls.take i).flatMap (·.ho)).map HotS.core) ∧ Hid (au.map AuthS.core = ((ls.take i).flatMap (·.au)).map AuthS.core)) (fun _ _ _ s4 _ => n - (intOf s4).toNat)
  case atStart => exact ⟨0, _, _, _, _, _, [], [], Nat.zero_le _, rfl, HST, Lib.hid rfl, Lib.hid rfl⟩
  case round =>
    rename World => wr
    obtain ⟨i, v0, v1, v2, v3, v4, ho, au, hi, rfl, HJ, HHO, HAU⟩ := hrel
    have i0 : (0 : Int) ≤ i := by omega
    by_cases hlt : i < n
    · have i1 : (i : Int) < n := by omega
      obtain ⟨x, hx⟩ : ∃ x, ls[i]? = some x := ⟨_, List.getElem?_eq_getElem (by rw [HNL.out]; exact hlt)⟩
      have HXS := Lib.hid hx
      obtain ⟨lb, lo, hla, hlb, hel⟩ := rowsAt_get HLS.out (j := i) (x := x.cs.toList) (by rw [List.getElem?_map, hx]; rfl)
      subst hla
      have HEL : Hid (∀ wx, Below w1.heap.size w1 wx → wx.cell? ⟨lb, lo + i * 5, none⟩ = some (.slice x.a0 x.n0 x.c0) ∧ wx.cell? ⟨lb, lo + i * 5 + 1, none⟩ = some (.slice x.a1 x.n1 x.c1) ∧ wx.cell? ⟨lb, lo + i * 5 + 2, none⟩ = some (.slice x.a2 x.n2 x.c2) ∧ wx.cell? ⟨lb, lo + i * 5 + 3, none⟩ = some (.slice x.a3 x.n3 x.c3) ∧ wx.cell? ⟨lb, lo + i * 5 + 4, none⟩ = some (.slice x.a4 x.n4 x.c4)) := fun wx hb => by
        have hc := HW1.out.trans (hb.mono HW1.out.size)
        have g := fun k v (hk : k < 5) (e : x.cs.toList[k]? = some v) => (hc.cell (p := ⟨lb, lo + i * 5 + k, none⟩) hlb).trans (hel k v hk e)
        exact ⟨g 0 _ (by decide) rfl, g 1 _ (by decide) rfl, g 2 _ (by decide) rfl, g 3 _ (by decide) rfl, g 4 _ (by decide) rfl⟩
      have HXW : Hid (∀ wx, Below w1.heap.size w1 wx → RulesAt wx x) := fun wx hb => (HRS.out x (List.mem_of_getElem? hx)).below (Nat.le_refl _) (HW1.out.trans (hb.mono HW1.out.size))
      have HLBB := Lib.hid (show lb < w.heap.size ∧ w.heap.size + 1 = B ∧ w.heap.size + 2 = base from ⟨hlb, HBB.out.1, HBB.out.2⟩)
      obtain ⟨⟨va0, L0, vc0, rfl, hL0⟩, ⟨va1, L1, vc1, rfl, hL1⟩, ⟨va2, L2, vc2, rfl, hL2⟩, ⟨va3, L3, vc3, rfl, hL3⟩, ⟨va4, L4, vc4, rfl, hL4⟩⟩ := HJ.out.sl
      have hX0 := HXW.out _ HJ.out.bel
      have HSZ0 := Lib.hid (show ((ls.take i).flatMap (·.fl)).length + x.n0 ≤ 1172812402926 by have := flatMap_le (f := fun r : RulesS => r.fl) hx; have := HT0.out; have := hX0.l0; omega)
      have HSZ1 := Lib.hid (show ((ls.take i).flatMap (·.br)).length + x.n1 ≤ 2199023255488 by have := flatMap_le (f := fun r : RulesS => r.br) hx; have := HT1.out; have := hX0.l1; omega)
      have HSZ3 := Lib.hid (show ((ls.take i).flatMap (·.sy)).length + x.n3 ≤ 3518437208781 by have := flatMap_le (f := fun r : RulesS => r.sy) hx; have := HT3.out; have := hX0.l3; omega)
      have HSZ2 := Lib.hid (show ho.length + x.n2 ≤ 2199023255488 by have := flatMap_le (f := fun r : RulesS => r.ho) hx; have := HT2.out; have := hX0.l2; have := len_core HHO.out; omega)
      have HSZ4 := Lib.hid (show au.length + x.n4 ≤ 2932031007317 by have := flatMap_le (f := fun r : RulesS => r.au) hx; have := HT4.out; have := hX0.l4; have := len_coreA HAU.out; omega)
      have hxn2 : x.n2 ≤ 2199023255488 := by have := hX0.s2; omega
      have hxn4 : x.n4 ≤ 2932031007317 := by have := hX0.s4; omega
      clear hx hlb hel hX0
      obtain ⟨e0, e1, e2, e3, e4⟩ := HEL.out _ HJ.out.bel
      obtain ⟨RB, hRB⟩ : ∃ RB, wr.heap.size = RB := ⟨_, rfl⟩
      have hJ0 := HJ.out.below ((Below.refl wr.heap.size wr).alloc (Nat.le_refl _) (.cells #[.slice x.a0 x.n0 x.c0, .slice x.a1 x.n1 x.c1, .slice x.a2 x.n2 x.c2, .slice x.a3 x.n3 x.c3, .slice x.a4 x.n4 x.c4] 28))
      have hr0 : (wr.alloc (.cells #[.slice x.a0 x.n0 x.c0, .slice x.a1 x.n1 x.c1, .slice x.a2 x.n2 x.c2, .slice x.a3 x.n3 x.c3, .slice x.a4 x.n4 x.c4] 28)).heap[RB]? = some (.cells #[.slice x.a0 x.n0 x.c0, .slice x.a1 x.n1 x.c1, .slice x.a2 x.n2 x.c2, .slice x.a3 x.n3 x.c3, .slice x.a4 x.n4 x.c4] 28) := by rw [get_allocC, if_pos hRB.symm]
      have HRN := Lib.hid (show RB ≠ B by have h1 := HJ.out.bs; have h2 := HJ.out.b1; omega)
      have HRGE := Lib.hid (show base ≤ RB by have h1 := HJ.out.bs; omega)
      have cr0 : (wr.alloc (.cells #[.slice x.a0 x.n0 x.c0, .slice x.a1 x.n1 x.c1, .slice x.a2 x.n2 x.c2, .slice x.a3 x.n3 x.c3, .slice x.a4 x.n4 x.c4] 28)).cell? ⟨RB, 0, none⟩ = some (.slice x.a0 x.n0 x.c0) := by simp only [World.cell?, hr0]; rfl
      obtain ⟨cB0, cB1, cB2, cB3, cB4⟩ := hJ0.cells
      obtain ⟨wa, hwa⟩ : ∃ wa, wr.alloc (.cells #[.slice x.a0 x.n0 x.c0, .slice x.a1 x.n1 x.c1, .slice x.a2 x.n2 x.c2, .slice x.a3 x.n3 x.c3, .slice x.a4 x.n4 x.c4] 28) = wa := ⟨_, rfl⟩
      rw [hwa] at hJ0 hr0 cr0 cB0 cB1 cB2 cB3 cB4
      have HJ0 := Lib.hid hJ0
      have HRB0 := Lib.hid hr0
      clear hJ0 hr0 HJ
      go_wp2_with (first | (at_builtin; refine wpList_append_fl _ rfl (.tmp 17) (.tmp 19) 22 rfl base 41 ifli _ 12 120 Try.underlying22 ifl0 ifl1 ifl2 ifl3 rfl (by decide) (.slice va0 L0 vc0) _ _ rfl HJ0.out.r0 x.a0 x.n0 x.c0 (flatF x.fl) rfl (HXW.out _ HJ0.out.bel).i0 (by rw [flat_len, (HXW.out _ HJ0.out.bel).l0]) (flowsAt_cells (HXW.out _ HJ0.out.bel).fl) (flat_one) (by have := HSZ0.out; unfold maxLen; omega) (by have := HSZ0.out; omega) (HJ0.out.bs) ?_; intro v' w10 hown3 hg3; obtain ⟨b0, dc0, rfl⟩ := own_sliceO hown3; have hbx := (hg3.block B (Array.getElem?_eq_some_iff.1 HJ0.out.box).1 (fun e => by have h1 := (typeAt_own HJ0.out.r0 e.symm).2.1; have := HJ0.out.b1; omega)).trans HJ0.out.box; have hrb := (hg3.block RB (Array.getElem?_eq_some_iff.1 HRB0.out).1 (fun e => by have h1 := (typeAt_own HJ0.out.r0 e.symm).1; unfold typeAt at h1; rw [HRB0.out] at h1; exact absurd (Option.some.inj h1) (by decide))).trans HRB0.out; have fz : w10.frozen? ⟨B, 0, none⟩ = false := (by simp [World.frozen?, hbx]); have cz : w10.cell? ⟨B, 0, none⟩ = some (.slice va0 L0 vc0) := (by simp only [World.cell?, hbx]; rfl); rw [← (HXW.out _ HJ0.out.bel).l0] at hown3; have hj := HJ0.out.app0 hown3 hg3; rw [(HXW.out _ HJ0.out.bel).l0, hL0] at hj; have HJ1 := Lib.hid hj; have hrb2 := (heap_setCell_other w10 ⟨B, 0, none⟩ RB (.slice b0 (L0 + x.n0) dc0) HRN.out).trans hrb; have HRB1 := Lib.hid hrb2; have cr1 := (show (w10.setCell ⟨B, 0, none⟩ (.slice b0 (L0 + x.n0) dc0)).cell? ⟨RB, 1, none⟩ = some (.slice x.a1 x.n1 x.c1) by simp only [World.cell?, hrb2]; rfl); obtain ⟨cB0, cB1, cB2, cB3, cB4⟩ := hj.cells; clear hj hrb hrb2 hbx hown3 hg3) | (at_builtin; refine wpList_append_fl _ rfl (.tmp 23) (.tmp 25) 23 rfl base 51 ibri _ 7 64 Try.underlying23 ibr0 ibr1 ibr2 ibr3 rfl (by decide) (.slice va1 L1 vc1) _ _ rfl HJ1.out.r1 x.a1 x.n1 x.c1 ((x.br.map BreakS.cs).flatten) rfl (HXW.out _ HJ1.out.bel).i1 (by rw [flatten_len (cs_len_br x.br), List.length_map, (HXW.out _ HJ1.out.bel).l1]) (rowsAt_cells (cs_len_br x.br) (by decide) (HXW.out _ HJ1.out.bel).br) (one_of one_br x.br) (by have := HSZ1.out; unfold maxLen; omega) (by have := HSZ1.out; omega) (HJ1.out.bs) ?_; intro v' w11 hown3 hg3; obtain ⟨b1, dc1, rfl⟩ := own_sliceO hown3; have hbx := (hg3.block B (Array.getElem?_eq_some_iff.1 HJ1.out.box).1 (fun e => by have h1 := (typeAt_own HJ1.out.r1 e.symm).2.1; have := HJ1.out.b1; omega)).trans HJ1.out.box; have hrb := (hg3.block RB (Array.getElem?_eq_some_iff.1 HRB1.out).1 (fun e => by have h1 := (typeAt_own HJ1.out.r1 e.symm).1; unfold typeAt at h1; rw [HRB1.out] at h1; exact absurd (Option.some.inj h1) (by decide))).trans HRB1.out; have fz : w11.frozen? ⟨B, 1, none⟩ = false := (by simp [World.frozen?, hbx]); have cz : w11.cell? ⟨B, 1, none⟩ = some (.slice va1 L1 vc1) := (by simp only [World.cell?, hbx]; rfl); rw [← (HXW.out _ HJ1.out.bel).l1] at hown3; have hj := HJ1.out.app1 hown3 hg3; rw [(HXW.out _ HJ1.out.bel).l1, hL1] at hj; have HJ3 := Lib.hid hj; have hrb2 := (heap_setCell_other w11 ⟨B, 1, none⟩ RB (.slice b1 (L1 + x.n1) dc1) HRN.out).trans hrb; have HRB3 := Lib.hid hrb2; have cr3 := (show (w11.setCell ⟨B, 1, none⟩ (.slice b1 (L1 + x.n1) dc1)).cell? ⟨RB, 3, none⟩ = some (.slice x.a3 x.n3 x.c3) by simp only [World.cell?, hrb2]; rfl); obtain ⟨cB0, cB1, cB2, cB3, cB4⟩ := hj.cells; clear hj hrb hrb2 hbx hown3 hg3) | (at_builtin; refine wpList_append_fl _ rfl (.tmp 29) (.tmp 31) 25 rfl base 63 isyi _ 5 40 Try.underlying25 isy0 isy1 isy2 isy3 rfl (by decide) (.slice va3 L3 vc3) _ _ rfl HJ3.out.r3 x.a3 x.n3 x.c3 ((x.sy.map SysR.cs).flatten) rfl (HXW.out _ HJ3.out.bel).i3 (by rw [flatten_len (cs_len_sy x.sy), List.length_map, (HXW.out _ HJ3.out.bel).l3]) (rowsAt_cells (cs_len_sy x.sy) (by decide) (HXW.out _ HJ3.out.bel).sy) (one_of one_sy x.sy) (by have := HSZ3.out; unfold maxLen; omega) (by have := HSZ3.out; omega) (HJ3.out.bs) ?_; intro v' w13 hown3 hg3; obtain ⟨b3, dc3, rfl⟩ := own_sliceO hown3; have hbx := (hg3.block B (Array.getElem?_eq_some_iff.1 HJ3.out.box).1 (fun e => by have h1 := (typeAt_own HJ3.out.r3 e.symm).2.1; have := HJ3.out.b1; omega)).trans HJ3.out.box; have hrb := (hg3.block RB (Array.getElem?_eq_some_iff.1 HRB3.out).1 (fun e => by have h1 := (typeAt_own HJ3.out.r3 e.symm).1; unfold typeAt at h1; rw [HRB3.out] at h1; exact absurd (Option.some.inj h1) (by decide))).trans HRB3.out; have fz : w13.frozen? ⟨B, 3, none⟩ = false := (by simp [World.frozen?, hbx]); have cz : w13.cell? ⟨B, 3, none⟩ = some (.slice va3 L3 vc3) := (by simp only [World.cell?, hbx]; rfl); rw [← (HXW.out _ HJ3.out.bel).l3] at hown3; have hj := HJ3.out.app3 hown3 hg3; rw [(HXW.out _ HJ3.out.bel).l3, hL3] at hj; have HJZ := Lib.hid hj; have hrb2 := (heap_setCell_other w13 ⟨B, 3, none⟩ RB (.slice b3 (L3 + x.n3) dc3) HRN.out).trans hrb; have HRBZ := Lib.hid hrb2; have cr2 := (show (w13.setCell ⟨B, 3, none⟩ (.slice b3 (L3 + x.n3) dc3)).cell? ⟨RB, 2, none⟩ = some (.slice x.a2 x.n2 x.c2) by simp only [World.cell?, hrb2]; rfl); obtain ⟨cB0, cB1, cB2, cB3, cB4⟩ := hj.cells; clear hj hrb hrb2 hbx hown3 hg3))
      have HL2 := Lib.hid hL2
      have HL4 := Lib.hid hL4
      clear hL0 hL1 hL2 hL3 hL4 HSZ0 HSZ1 HSZ3
      have HE2 := Lib.hid (fun (y : HotS) (k : Nat) (hk : x.ho[k]? = some y) (wx : World) (hb : Below w1.heap.size w1 wx) => rowsAt_get (HXW.out wx hb).ho (j := k) (x := y.cs) (by rw [List.getElem?_map, hk]; rfl))
      have HE4 := Lib.hid (fun (y : AuthS) (k : Nat) (hk : x.au[k]? = some y) (wx : World) (hb : Below w1.heap.size w1 wx) => rowsAt_get (HXW.out wx hb).au (j := k) (x := y.cs) (by rw [List.getElem?_map, hk]; rfl))
      have hx2l := (HXW.out _ HJZ.out.bel).l2
      have hx4l := (HXW.out _ HJZ.out.bel).l4
      have HX2L := Lib.hid hx2l
      have HX4L := Lib.hid hx4l
      clear hx2l hx4l
      go_loopw [7, 37] (fun _ s5 wr => ∃ (k : Nat) (v2 : Value) (ho' : List HotS), k ≤ x.n2 ∧ s5 = .int .i64 k ∧ Hid (JoinI w1 base B (.slice b0 (L0 + x.n0) dc0) (.slice b1 (L1 + x.n1) dc1) v2 (.slice b3 (L3 + x.n3) dc3) (.slice va4 L4 vc4) ((ls.take i).flatMap (·.fl) ++ x.fl) ((ls.take i).flatMap (·.br) ++ x.br) ho' ((ls.take i).flatMap (·.sy) ++ x.sy) au wr) ∧ Hid (ho'.map HotS.core = ((ls.take i).flatMap (·.ho) ++ x.ho.take k).map HotS.core) ∧ Hid (wr.heap[RB]? = some (.cells #[.slice x.a0 x.n0 x.c0, .slice x.a1 x.n1 x.c1, .slice x.a2 x.n2 x.c2, .slice x.a3 x.n3 x.c3, .slice x.a4 x.n4 x.c4] 28))) (fun _ s5 _ => x.n2 - (intOf s5).toNat)
      case atStart => exact ⟨0, _, ho, Nat.zero_le _, rfl, HJZ, Lib.hid (by rw [HHO.out, List.take_zero, List.append_nil]), HRBZ⟩
      case round =>
        rename World => wy
        clear HJZ HRBZ HJ0 HJ1 HJ3 HRB0 HRB1 HRB3
        obtain ⟨k, v2, ho', hk, rfl, HJ, HHO2, HRB⟩ := hrel
        obtain ⟨_, _, ⟨va2', L2', vc2', rfl, hL2'⟩, _, _⟩ := HJ.out.sl
        have k0 : (0 : Int) ≤ k := by omega
        by_cases hlt2 : k < x.n2
        · have k1 : (k : Int) < x.n2 := by omega
          obtain ⟨y, hy⟩ : ∃ y, x.ho[k]? = some y := ⟨_, List.getElem?_eq_getElem (by rw [HX2L.out]; exact hlt2)⟩
          obtain ⟨hb, hoff, hha, hhl, hhc⟩ := HE2.out y k hy _ HJ.out.bel
          have d0 : wy.cell? ⟨hb, hoff + k * 5, none⟩ = some (.string y.res) := hhc 0 (.string y.res) (by decide) rfl
          have d1 : wy.cell? ⟨hb, hoff + k * 5 + 1, none⟩ = some (.int .i64 y.idx) := hhc 1 (.int .i64 y.idx) (by decide) rfl
          have d2 : wy.cell? ⟨hb, hoff + k * 5 + 2, none⟩ = some (.int .i64 y.cnt) := hhc 2 (.int .i64 y.cnt) (by decide) rfl
          have d3 : wy.cell? ⟨hb, hoff + k * 5 + 3, none⟩ = some (.int .i64 y.secs) := hhc 3 (.int .i64 y.secs) (by decide) rfl
          have d4 : wy.cell? ⟨hb, hoff + k * 5 + 4, none⟩ = some (.slice y.ia y.il y.ic) := hhc 4 (.slice y.ia y.il y.ic) (by decide) rfl
          rw [hha]
          have HOKY := Lib.hid ((HXW.out _ HJ.out.bel).zh y (List.mem_of_getElem? hy))
          have hyb := HOKY.out.b
          have HAL : Hid (Below wy.heap.size wy (wy.alloc (hotbO y))) := (Below.refl _ _).alloc (Nat.le_refl _) _
          have HOKA := Lib.hid (HOKY.out.below (Nat.le_refl _) HAL.out)
          have HNX := Lib.hid (show ((ls.take i).flatMap (·.ho) ++ x.ho.take (k + 1)).map HotS.core = ((ls.take i).flatMap (·.ho) ++ x.ho.take k).map HotS.core ++ [y.core] by rw [List.take_add_one, hy, ← List.append_assoc, List.map_append]; rfl)
          have HJH := Lib.hid (fun w4 ya yc => hot_clone HJ.out (w4 := w4) (ya := ya) (yc := yc) y HOKY.out HRB.out)
          have HSZK := Lib.hid (show ho'.length + 1 ≤ 2199023255488 by have h1 := congrArg List.length HHO2.out; have h2 := len_core HHO.out; have h3 := HSZ2.out; simp at h1 h2; omega)
          unfold hotbO at HAL HOKA HJH
          clear hy hhc
          go_wp2_with (first | (go_at_call 14; refine (itclone_own y HOKA.out).mono ?_; rintro e w4 ⟨ya, yc, rfl, hown4, hb4⟩; obtain ⟨⟨f4, c4⟩, hj4, ⟨q0, q1, q2, q3, q4⟩, ho4, hr4⟩ := HJH.out w4 ya yc hown4 hb4; have HJ4 := Lib.hid hj4; have HO4 := Lib.hid ho4; have HRB4 := Lib.hid hr4; obtain ⟨_, _, cB2, _, _⟩ := hj4.cells; clear hj4 ho4 hb4 hown4 hr4) | (at_builtin; refine wpList_append_fl _ rfl (.tmp 46) (.tmp 48) 24 rfl base 44 ihoi _ 5 64 Try.underlying24 iho0 iho1 iho2 iho3 rfl (by decide) (.slice va2' L2' vc2') ho'.length _ rfl (HJ4.out.r2.alloc _) (some ⟨_, 0, none⟩) 1 1 [.string y.res, .int .i64 y.idx, .int .i64 y.cnt, .int .i64 y.secs, .slice ya y.il yc] rfl (fun e => by cases e) rfl (alloc_cells #[.string y.res, .int .i64 y.idx, .int .i64 y.cnt, .int .i64 y.secs, .slice ya y.il yc] _ (by simp [World.setCell])) (one_ho ⟨y.res, y.idx, y.cnt, y.secs, ya, y.il, yc, y.items⟩) (by have := HSZK.out; unfold maxLen; omega) (by have := HSZK.out; omega) (Nat.le_trans HJ4.out.bs (by simp)) ?_; intro v5 w5 hown5 hg5; obtain ⟨va5, vc5, rfl⟩ := own_sliceO hown5; obtain ⟨⟨f5, c5⟩, hj5, hr5⟩ := hot_app HJ4.out ⟨y.res, y.idx, y.cnt, y.secs, ya, y.il, yc, y.items⟩ _ hown5 hg5 HO4.out HRB4.out HRN.out; have HJ5 := Lib.hid hj5; have HRB5 := Lib.hid hr5; clear hj5 hg5 hown5 hr5))
          go_wp2_with (fail)
          refine ⟨⟨k + 1, .slice va5 (L2' + 1) vc5, ho' ++ [⟨y.res, y.idx, y.cnt, y.secs, ya, y.il, yc, y.items⟩], by omega, by go_num, ?_, Lib.hid (by rw [HNX.out, ← HHO2.out, List.map_append]; rfl), ?_⟩, by first | (simp [intOf]; done) | (simp [intOf]; omega)⟩
          · first | exact HJ5 | (rw [hL2'] at HJ5; exact HJ5)
          · first | exact HRB5 | (rw [hha, hL2'] at HRB5; exact HRB5)
        · have hkx : k = x.n2 := by omega
          have HHO3 : Hid (ho'.map HotS.core = ((ls.take (i + 1)).flatMap (·.ho)).map HotS.core) := Lib.hid (by rw [flatMap_next (f := fun r : RulesS => r.ho) HXS.out, HHO2.out, hkx, show List.take x.n2 x.ho = x.ho from List.take_of_length_le (by rw [HX2L.out]; exact Nat.le_refl _)])
          have hrb := HRB.out
          have cr4 : wy.cell? ⟨RB, 4, none⟩ = some (.slice x.a4 x.n4 x.c4) := by simp only [World.cell?, hrb]; rfl
          clear HHO2 HE2 hkx hL2' hrb
          go_wp2_with (fail)
          go_loopw [9, 55] (fun _ s5 wr => ∃ (k : Nat) (v4 : Value) (au' : List AuthS), k ≤ x.n4 ∧ s5 = .int .i64 k ∧ Hid (JoinI w1 base B (.slice b0 (L0 + x.n0) dc0) (.slice b1 (L1 + x.n1) dc1) (.slice va2' L2' vc2') (.slice b3 (L3 + x.n3) dc3) v4 ((ls.take i).flatMap (·.fl) ++ x.fl) ((ls.take i).flatMap (·.br) ++ x.br) ho' ((ls.take i).flatMap (·.sy) ++ x.sy) au' wr) ∧ Hid (au'.map AuthS.core = ((ls.take i).flatMap (·.au) ++ x.au.take k).map AuthS.core) ∧ Hid (wr.heap[RB]? = some (.cells #[.slice x.a0 x.n0 x.c0, .slice x.a1 x.n1 x.c1, .slice x.a2 x.n2 x.c2, .slice x.a3 x.n3 x.c3, .slice x.a4 x.n4 x.c4] 28))) (fun _ s5 _ => x.n4 - (intOf s5).toNat)
          case atStart => exact ⟨0, _, au, Nat.zero_le _, rfl, HJ, Lib.hid (by rw [HAU.out, List.take_zero, List.append_nil]), HRB⟩
          case round =>
            rename World => wz
            clear HJ HRB cr4
            obtain ⟨k, v4, au', hk, rfl, HJ, HAU2, HRB⟩ := hrel
            obtain ⟨_, _, _, _, ⟨va4', L4', vc4', rfl, hL4'⟩⟩ := HJ.out.sl
            have k0 : (0 : Int) ≤ k := by omega
            by_cases hlt3 : k < x.n4
            · have k1 : (k : Int) < x.n4 := by omega
              obtain ⟨y, hy⟩ : ∃ y, x.au[k]? = some y := ⟨_, List.getElem?_eq_getElem (by rw [HX4L.out]; exact hlt3)⟩
              obtain ⟨hb, hoff, hha, hhl, hhc⟩ := HE4.out y k hy _ HJ.out.bel
              have d0 : wz.cell? ⟨hb, hoff + k * 3, none⟩ = some (.string y.res) := hhc 0 (.string y.res) (by decide) rfl
              have d1 : wz.cell? ⟨hb, hoff + k * 3 + 1, none⟩ = some (.bool y.white) := hhc 1 (.bool y.white) (by decide) rfl
              have d2 : wz.cell? ⟨hb, hoff + k * 3 + 2, none⟩ = some (.slice y.oa y.ol y.oc) := hhc 2 (.slice y.oa y.ol y.oc) (by decide) rfl
              rw [hha]
              have HOKY := Lib.hid ((HXW.out _ HJ.out.bel).za y (List.mem_of_getElem? hy))
              have hyb := HOKY.out.b
              have HAL : Hid (Below wz.heap.size wz (wz.alloc (autbO y))) := (Below.refl _ _).alloc (Nat.le_refl _) _
              have HOKA := Lib.hid (HOKY.out.below (Nat.le_refl _) HAL.out)
              have HNX := Lib.hid (show ((ls.take i).flatMap (·.au) ++ x.au.take (k + 1)).map AuthS.core = ((ls.take i).flatMap (·.au) ++ x.au.take k).map AuthS.core ++ [y.core] by rw [List.take_add_one, hy, ← List.append_assoc, List.map_append]; rfl)
              have HJH := Lib.hid (fun w4 ya yc => aut_clone HJ.out (w4 := w4) (ya := ya) (yc := yc) y HOKY.out HRB.out)
              have HSZK := Lib.hid (show au'.length + 1 ≤ 2932031007317 by have h1 := congrArg List.length HAU2.out; have h2 := len_coreA HAU.out; have h3 := HSZ4.out; simp at h1 h2; omega)
              unfold autbO at HAL HOKA HJH
              clear hy hhc
              go_wp2_with (first | (go_at_call 15; refine (txclone_own y HOKA.out).mono ?_; rintro e w4 ⟨ya, yc, rfl, hown4, hb4⟩; obtain ⟨⟨f4, c4⟩, hj4, ⟨q0, q1, q2⟩, ho4, hr4⟩ := HJH.out w4 ya yc hown4 hb4; have HJ4 := Lib.hid hj4; have HO4 := Lib.hid ho4; have HRB4 := Lib.hid hr4; obtain ⟨_, _, _, _, cB4⟩ := hj4.cells; clear hj4 ho4 hb4 hown4 hr4) | (at_builtin; refine wpList_append_fl _ rfl (.tmp 64) (.tmp 66) 26 rfl base 48 iaui _ 3 48 Try.underlying26 iau0 iau1 iau2 iau3 rfl (by decide) (.slice va4' L4' vc4') au'.length _ rfl (HJ4.out.r4.alloc _) (some ⟨_, 0, none⟩) 1 1 [.string y.res, .bool y.white, .slice ya y.ol yc] rfl (fun e => by cases e) rfl (alloc_cells #[.string y.res, .bool y.white, .slice ya y.ol yc] _ (by simp [World.setCell])) (one_au ⟨y.res, y.white, ya, y.ol, yc, y.orig⟩) (by have := HSZK.out; unfold maxLen; omega) (by have := HSZK.out; omega) (Nat.le_trans HJ4.out.bs (by simp)) ?_; intro v5 w5 hown5 hg5; obtain ⟨va5, vc5, rfl⟩ := own_sliceO hown5; obtain ⟨⟨f5, c5⟩, hj5, hr5⟩ := aut_app HJ4.out ⟨y.res, y.white, ya, y.ol, yc, y.orig⟩ _ hown5 hg5 HO4.out HRB4.out HRN.out; have HJ5 := Lib.hid hj5; have HRB5 := Lib.hid hr5; clear hj5 hg5 hown5 hr5))
              go_wp2_with (fail)
              refine ⟨⟨k + 1, .slice va5 (L4' + 1) vc5, au' ++ [⟨y.res, y.white, ya, y.ol, yc, y.orig⟩], by omega, by go_num, ?_, Lib.hid (by rw [HNX.out, ← HAU2.out, List.map_append]; rfl), ?_⟩, by first | (simp [intOf]; done) | (simp [intOf]; omega)⟩
              · first | exact HJ5 | (rw [hL4'] at HJ5; exact HJ5)
              · first | exact HRB5 | (rw [hha, hL4'] at HRB5; exact HRB5)
            · have hkx : k = x.n4 := by omega
              have HAU3 : Hid (au'.map AuthS.core = ((ls.take (i + 1)).flatMap (·.au)).map AuthS.core) := Lib.hid (by rw [flatMap_next (f := fun r : RulesS => r.au) HXS.out, HAU2.out, hkx, show List.take x.n4 x.au = x.au from List.take_of_length_le (by rw [HX4L.out]; exact Nat.le_refl _)])
              go_wp2_with (fail)
              refine ⟨⟨i + 1, .slice b0 (L0 + x.n0) dc0, .slice b1 (L1 + x.n1) dc1, .slice va2' L2' vc2', .slice b3 (L3 + x.n3) dc3, .slice va4' L4' vc4', ho', au', by omega, by go_num, ?_, HHO3, HAU3⟩, by first | (simp [intOf]; done) | (simp [intOf]; omega)⟩
              rw [flatMap_next (f := fun r : RulesS => r.fl) HXS.out, flatMap_next (f := fun r : RulesS => r.br) HXS.out, flatMap_next (f := fun r : RulesS => r.sy) HXS.out]
              exact HJ
    · have hin : i = n := by omega
      obtain ⟨⟨va0, L0, vc0, rfl, hL0⟩, ⟨va1, L1, vc1, rfl, hL1⟩, ⟨va2, L2, vc2, rfl, hL2⟩, ⟨va3, L3, vc3, rfl, hL3⟩, ⟨va4, L4, vc4, rfl, hL4⟩⟩ := HJ.out.sl
      obtain ⟨cB0, cB1, cB2, cB3, cB4⟩ := HJ.out.cells
      have hrc := (HJ.out.bel.block w.heap.size (by have := HWZ.out; omega)).trans HWC.out
      have HRC := Lib.hid hrc
      have fr : ∀ k, wr.frozen? ⟨w.heap.size, k, none⟩ = false := fun k => by simp [World.frozen?, hrc]
      have fr0 := fr 0
      have fr1 := fr 1
      have fr2 := fr 2
      have fr3 := fr 3
      have fr4 := fr 4
      have g0 : wr.cell? ⟨w.heap.size, 0, none⟩ = some (.slice none 0 0) := by simp only [World.cell?, hrc]; rfl
      have g1 : wr.cell? ⟨w.heap.size, 1, none⟩ = some (.slice none 0 0) := by simp only [World.cell?, hrc]; rfl
      have g2 : wr.cell? ⟨w.heap.size, 2, none⟩ = some (.slice none 0 0) := by simp only [World.cell?, hrc]; rfl
      have g3 : wr.cell? ⟨w.heap.size, 3, none⟩ = some (.slice none 0 0) := by simp only [World.cell?, hrc]; rfl
      have g4 : wr.cell? ⟨w.heap.size, 4, none⟩ = some (.slice none 0 0) := by simp only [World.cell?, hrc]; rfl
      clear fr hrc
      go_wp2_with (fail)
      have hw := HJ.out.weak HW1.out
      have h1 := heap_setCell_same wr w.heap.size 0 _ _ (.slice va0 L0 vc0) HRC.out
      have h2 := heap_setCell_same _ w.heap.size 1 _ _ (.slice va1 L1 vc1) h1
      have h3 := heap_setCell_same _ w.heap.size 2 _ _ (.slice va2 L2 vc2) h2
      have h4 := heap_setCell_same _ w.heap.size 3 _ _ (.slice va3 L3 vc3) h3
      have h5 := heap_setCell_same _ w.heap.size 4 _ _ (.slice va4 L4 vc4) h4
      have j1 := hw.set (g := w.heap.size) (k := 0) (u := .slice va0 L0 vc0) (by have := HBB.out; omega) (by have := HBB.out; omega) (Nat.le_refl _)
      have j2 := j1.set (g := w.heap.size) (k := 1) (u := .slice va1 L1 vc1) (by have := HBB.out; omega) (by have := HBB.out; omega) (Nat.le_refl _)
      have j3 := j2.set (g := w.heap.size) (k := 2) (u := .slice va2 L2 vc2) (by have := HBB.out; omega) (by have := HBB.out; omega) (Nat.le_refl _)
      have j4 := j3.set (g := w.heap.size) (k := 3) (u := .slice va3 L3 vc3) (by have := HBB.out; omega) (by have := HBB.out; omega) (Nat.le_refl _)
      have j5 := j4.set (g := w.heap.size) (k := 4) (u := .slice va4 L4 vc4) (by have := HBB.out; omega) (by have := HBB.out; omega) (Nat.le_refl _)
      subst hin
      rw [List.take_of_length_le (by rw [HNL.out]; exact Nat.le_refl _)] at j5 HHO HAU
      refine bodyPost_ret (results_cell_row (P := Try.prog) rfl _ _ w.heap.size 28 #[.slice va0 L0 vc0, .slice va1 L1 vc1, .slice va2 L2 vc2, .slice va3 L3 vc3, .slice va4 L4 vc4] (0, 0) _ (by rfl) ?hh Try.underlying28 rfl (by kernel_rfl)) rfl ?_
      case hh => exact h5
      exact ⟨base, B, _, _, _, _, _, ho, au, rfl, j5, HHO.out, HAU.out⟩
end Go.Proofs.Ytgkdpkpiejjfmaa
