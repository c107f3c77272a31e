/- The law GuardLists. -/
import Derived.Test.YtnobfmlfhaaghaaKeptR
import Derived.Test.YtnobfmlfhaaghaaGuLs
import Derived.Test.YtnobfmlfhaaghaaGuF
namespace Go.Proofs.Ytnobfmlfhaaghaa
open Go.RowKit
set_option linter.unusedVariables false
set_option linter.unusedSimpArgs false

set_option maxRecDepth 100000 in
theorem slice_oneQ {H : Type} {enc : TypeId × Value → H} {W : World} {spare : Nat → Bool} {held : Bool} {base b0 : Nat} {t e : TypeId} {r : Reach} {v : Value} {d : DataW H} {p : List MemPlace} (ht : Try.prog.underlying t = some (.slice e))
    (hval : Value.okWide Try.prog W r b0 t v) (hd : DataW.Trod enc Try.prog W base spare held t v d p) : ∃ m, DataW.trod enc Try.prog W base spare held m t [v] = some (d, p) := by
  obtain ⟨a, l, c, rfl⟩ := Go.WideShapes.okWide_slice ht hval
  exact hd
structure AuL where
  a : Option Addr
  n : Nat
  c : Nat
  xs : List AuthS
def AuL.v (r : AuL) : Value := .slice r.a r.n r.c
structure AuLAt (w : World) (r : AuL) : Prop where
  l : r.xs.length = r.n
  b : r.n * 48 ≤ 140737488351232
  m : r.n ≤ r.c
  i : r.a = none → r.n = 0 ∧ r.c = 0
  row : RowsAt w r.a 3 (r.xs.map AuthS.cs)
  ok : ∀ x ∈ r.xs, AuthOk w x
set_option maxRecDepth 100000 in
theorem open_auths {H : Type} {enc : TypeId × Value → H} {W : World} {spare : Nat → Bool} {held : Bool} {base b0 : Nat} {r : Reach} {v : Value} {d : DataW H} {p : List MemPlace}
    (hval : Value.okWide Try.prog W r b0 39 v) (hd : DataW.Trod enc Try.prog W base spare held 39 v d p) (hsz : Sz 39 d) :
    ∃ r : AuL, v = r.v ∧ AuLAt W r := by
  obtain ⟨m, hm⟩ := slice_oneQ Try.underlying39 hval hd
  have hsz1 : Sz 39 (d, p).1 := hsz
  obtain ⟨a, len, cap, xs, hv, h1, h2, h3, h4, h5, h6⟩ := read_auths hm hsz1
  exact ⟨⟨a, len, cap, xs⟩, hv, h1, h2, h3, h4, h5, h6⟩
theorem lstG_kern (r o : ByteArray) (bs : List AuthS) : lstG (passA r o) bs = lstG (passA r o) (bs.map AuthS.kern) := by
  unfold lstG
  rw [List.findIdx?_map, List.length_map]
  rfl
theorem handed_ok {w : World} {au zs : List AuthS} (hk : zs.map AuthS.kern = au.map AuthS.kern) (hok : ∀ x ∈ au, AuthOk w x) (hh : ∀ z ∈ zs, ∃ b, AuthHand w b z) : ∀ z ∈ zs, AuthOk w z := by
  intro z hz
  obtain ⟨j, hj⟩ := List.mem_iff_getElem?.1 hz
  obtain ⟨y, hy, e1, e2, e3⟩ := kernA_get hk.symm hj
  obtain ⟨b, g, b', h1, h2, h3, h4, h5⟩ := hh z hz
  have hy1 := hok y (List.mem_of_getElem? hy)
  have hll : z.ol = y.ol := by rw [← h4, ← e3]; exact hy1.l
  exact ⟨by rw [← e1]; exact hy1.z, h4, by rw [h3]; omega, by rw [hll]; exact hy1.b, fun e => (by rw [h2] at e; cases e), (by rw [h2]; exact rows_texts (rowTx_of h4 h5)), (by rw [← e3]; exact hy1.iz)⟩

set_option maxHeartbeats 12800000 in
set_option maxRecDepth 100000 in
theorem glists_walk {w : World} (q : AuL) (hq : AuLAt w q) (resource : ByteArray) (hres : resource.size ≤ maxLen) (origin : ByteArray) (hor : origin.size ≤ maxLen) :
    Calls Try.prog 5 #[q.v, .string resource, .string origin] w fun e w' => e = .returned (.bool true) ∧ Below w.heap.size w w' := by
  obtain ⟨a, n, cap, au⟩ := q
  obtain ⟨hl, hb, hm, hi, hrow, hok⟩ := hq
  dsimp only at hl hb hm hi hrow hok
  unfold AuL.v
  dsimp only
  obtain ⟨r, hr⟩ : ∃ r : RulesS, r = (⟨none, 0, 0, none, 0, 0, none, 0, 0, none, 0, 0, a, n, cap, [], [], [], [], au⟩ : RulesS) := ⟨_, rfl⟩
  have hra : RulesAt w r := by
    rw [hr]
    exact ⟨rfl, rfl, rfl, rfl, hl, by simp, by simp, by simp, by simp, hb, fun _ => ⟨rfl, rfl⟩, fun _ => ⟨rfl, rfl⟩, fun _ => ⟨rfl, rfl⟩, fun _ => ⟨rfl, rfl⟩, hi, Or.inl rfl, Or.inl rfl, Or.inl rfl, Or.inl rfl, hrow, by simp, by simp, by simp, hok, by simp, by simp⟩
  have hcs : r.cs = #[.slice none 0 0, .slice none 0 0, .slice none 0 0, .slice none 0 0, .slice a n cap] := by rw [hr]; rfl
  have HRA := Lib.hid hra
  have HHC := handR_any r hra
  rw [hcs] at HHC
  have HHD := Lib.hid HHC
  have HCS := Lib.hid hcs
  have HRE := Lib.hid hr
  have HL := Lib.hid hl
  have HROW := Lib.hid hrow
  have HOK := Lib.hid hok
  have HBN := Lib.hid hb
  clear hra hcs HHC hr hl hrow hok hres hor hi hm
  go_enter Try.func5, Try.ntmps5
  go_wp2_with (fail)
  refine HHD.out.mono ?_
  rintro e w1 ⟨x, rfl, hx, hb1⟩
  obtain ⟨gF, gB, gS, a2, c2, a4, c4, ho, zs, hxc, hv⟩ := hx.pieces
  have e0 : r.n0 = 0 ∧ r.n1 = 0 ∧ r.n2 = 0 ∧ r.n3 = 0 ∧ r.n4 = n ∧ r.au = au := by rw [HRE.out]; exact ⟨rfl, rfl, rfl, rfl, rfl, rfl⟩
  rw [e0.1, e0.2.1, e0.2.2.1, e0.2.2.2.1, e0.2.2.2.2.1] at hxc
  have hxc : x.cs = #[.slice (some ⟨gF, 0, none⟩) 0 9, .slice (some ⟨gB, 0, none⟩) 0 9, .slice a2 0 c2, .slice (some ⟨gS, 0, none⟩) 0 9, .slice a4 n c4] := hxc
  have hak : zs.map AuthS.kern = au.map AuthS.kern := by rw [← e0.2.2.2.2.2]; exact hv.ak
  rw [hxc]
  have HXC := Lib.hid hxc
  have HX := Lib.hid hx
  have HV := Lib.hid hv
  have HAK := Lib.hid hak
  have hlz : zs.length = n := by have h := congrArg List.length hak; rw [List.length_map, List.length_map] at h; rw [h]; exact HL.out
  have HLZ := Lib.hid hlz
  have HB1 := Lib.hid hb1
  have hok1 : ∀ y ∈ au, AuthOk w1 y := fun y hy => (HOK.out y hy).below (Nat.le_refl _) hb1
  have HOZ := Lib.hid (handed_ok hak hok1 hv.ha)
  have hal : Below w1.heap.size w1 (w1.alloc (.cells #[.slice (some ⟨gF, 0, none⟩) 0 9, .slice (some ⟨gB, 0, none⟩) 0 9, .slice a2 0 c2, .slice (some ⟨gS, 0, none⟩) 0 9, .slice a4 n c4] 45)) := (Below.refl _ _).alloc (Nat.le_refl _) _
  have hbx : (w1.alloc (.cells #[.slice (some ⟨gF, 0, none⟩) 0 9, .slice (some ⟨gB, 0, none⟩) 0 9, .slice a2 0 c2, .slice (some ⟨gS, 0, none⟩) 0 9, .slice a4 n c4] 45)).heap[w1.heap.size]? = some (.cells #[.slice (some ⟨gF, 0, none⟩) 0 9, .slice (some ⟨gB, 0, none⟩) 0 9, .slice a2 0 c2, .slice (some ⟨gS, 0, none⟩) 0 9, .slice a4 n c4] 45) := by rw [get_allocJ, if_pos rfl]
  have hzz : (w1.alloc (.cells #[.slice (some ⟨gF, 0, none⟩) 0 9, .slice (some ⟨gB, 0, none⟩) 0 9, .slice a2 0 c2, .slice (some ⟨gS, 0, none⟩) 0 9, .slice a4 n c4] 45)).heap.size = w1.heap.size + 1 := by simp
  have HAL := Lib.hid hal
  have HCG : Hid (∀ wx, Below w1.heap.size w1 wx → _) := Lib.hid (fun wx hx => glists_any (w := wx) a4 n c4 zs HLZ.out HBN.out (HV.out.ra.below (Nat.le_refl _) hx) (fun y hy => (HOZ.out y hy).below (Nat.le_refl _) hx) resource origin)
  have HCR : Hid (∀ wx, Below w1.heap.size w1 wx → _) := Lib.hid (fun wx hx => rlists_any (w := wx) a n cap au HL.out HBN.out (HROW.out.below (Nat.le_refl _) (HB1.out.trans (hx.mono HB1.out.size))) (fun y hy => (HOK.out y hy).below (Nat.le_refl _) (HB1.out.trans (hx.mono HB1.out.size))) resource origin)
  have HKC : Hid (∀ wx, Below w1.heap.size w1 wx → Calls Try.prog 18 #[.agg #[.slice (some ⟨gF, 0, none⟩) 0 9, .slice (some ⟨gB, 0, none⟩) 0 9, .slice a2 0 c2, .slice (some ⟨gS, 0, none⟩) 0 9, .slice a4 n c4], .agg #[.slice none 0 0, .slice none 0 0, .slice none 0 0, .slice none 0 0, .slice a n cap]] wx fun e w' => e = .returned (.bool true) ∧ Below wx.heap.size wx w') := Lib.hid (fun wx hx => by
    have h := keptR_any (w := wx) r x (HRA.out.below (Nat.le_refl _) (HB1.out.trans (hx.mono HB1.out.size))) (HX.out.below hx)
    rw [HXC.out, HCS.out] at h
    exact h)
  have hlk : lstG (passA resource origin) zs = lstG (passA resource origin) au := by rw [lstG_kern, hak, ← lstG_kern]
  simp only [hlk] at HCG
  obtain ⟨⟨li, lb⟩, hL⟩ : ∃ L, lstG (passA resource origin) au = L := ⟨_, rfl⟩
  simp only [hL] at HCG HCR
  clear hlk hL hxc hx hv hak hlz hb1 hok1 hal e0
  go_wp2_with (fail)
  generalize w1.alloc _ = W at *
  have HBX : Hid (∀ wx, Below W.heap.size W wx → wx.cell? ⟨w1.heap.size, 0, none⟩ = some (.slice (some ⟨gF, 0, none⟩) 0 9) ∧ wx.cell? ⟨w1.heap.size, 1, none⟩ = some (.slice (some ⟨gB, 0, none⟩) 0 9) ∧ wx.cell? ⟨w1.heap.size, 2, none⟩ = some (.slice a2 0 c2) ∧ wx.cell? ⟨w1.heap.size, 3, none⟩ = some (.slice (some ⟨gS, 0, none⟩) 0 9) ∧ wx.cell? ⟨w1.heap.size, 4, none⟩ = some (.slice a4 n c4)) := Lib.hid (fun wx hb => by
    have g0 := (hb.block w1.heap.size (by omega)).trans hbx
    simp only [World.cell?, g0]
    exact ⟨rfl, rfl, rfl, rfl, rfl⟩)
  clear hbx hzz
  refine (HCG.out _ HAL.out).mono ?_
  rintro e w2 ⟨rfl, hb2⟩
  have HB2 := Lib.hid hb2
  clear hb2
  go_wp2_with (fail)
  refine (HCR.out _ (HAL.out.trans (HB2.out.mono HAL.out.size))).mono ?_
  rintro e w3 ⟨rfl, hb3⟩
  have HB3 := Lib.hid (HB2.out.trans (hb3.mono HB2.out.size))
  clear hb3
  go_wp2_with (fail)
  refine (glive_any _).mono ?_
  rintro e w4 ⟨rfl, hb4⟩
  have HB4 := Lib.hid (HB3.out.trans (hb4.mono HB3.out.size))
  clear hb4 HB2 HB3 HCG HCR HHD
  go_wp2_with (fail)
  go_loopw [12] (fun i wr => ∃ (j : Nat), j ≤ n ∧ i = .int .i64 j ∧ Hid (Below W.heap.size W wr)) (fun i _ => n - (intOf i).toNat)
  case atStart => exact ⟨0, Nat.zero_le _, rfl, HB4⟩
  case round =>
    rename World => wz
    obtain ⟨j, hj, rfl, HBZ⟩ := hrel
    have hw1z := HAL.out.trans (HBZ.out.mono HAL.out.size)
    have hbn := HBN.out
    have j0 : (0 : Int) ≤ j := by omega
    by_cases hjt : j < n
    · have j1 : (j : Int) < n := by omega
      obtain ⟨p0, p1, p2, p3, p4⟩ := HBX.out _ HBZ.out
      obtain ⟨y, hy⟩ : ∃ y, au[j]? = some y := ⟨_, List.getElem?_eq_getElem (by rw [HL.out]; exact hjt)⟩
      obtain ⟨z, hz, e1, e2, e3⟩ := kernA_get HAK.out hy
      obtain ⟨yb, yo, rfl, hyl, d0, d1, d2⟩ := au_get (HROW.out.below (Nat.le_refl _) (HB1.out.trans (hw1z.mono HB1.out.size))) hy
      obtain ⟨xb, xo, rfl, hxl, c0, c1, cc⟩ := au_get (HV.out.ra.below (Nat.le_refl _) hw1z) hz
      have HY := Lib.hid ((HOK.out y (List.mem_of_getElem? hy)).below (Nat.le_refl _) (HB1.out.trans (hw1z.mono HB1.out.size)))
      have HZ := Lib.hid ((HOZ.out z (List.mem_of_getElem? hz)).below (Nat.le_refl _) hw1z)
      rw [e1] at c0
      rw [e2] at c1
      have hyo := HY.out.b
      have hzo := HZ.out.b
      have hlp : w1.heap.size < wz.heap.size := World.block_lt_of_cell? _ _ p4
      have HX1 : Hid (∀ wx, Below wz.heap.size wz wx → Calls Try.prog 13 #[.agg #[.string y.res, .bool y.white, .slice z.oa z.ol z.oc], .string origin] wx fun e w' => e = .returned (.bool (listB y.res y.white y.orig origin)) ∧ Below wx.heap.size wx w') := Lib.hid (fun wx hx => by
        have h := glist_any (w := wx) z.res z.white HZ.out.z z.oa z.ol z.oc z.orig HZ.out.l (by omega) HZ.out.lc (HZ.out.at_.below2 (Nat.le_refl _) hx) HZ.out.iz origin
        rw [e1, e2, e3] at h
        exact h)
      have HX2 : Hid (∀ wx, Below wz.heap.size wz wx → Calls Try.prog 14 #[.agg #[.string y.res, .bool y.white, .slice y.oa y.ol y.oc], .string origin] wx fun e w' => e = .returned (.bool (listB y.res y.white y.orig origin)) ∧ Below wx.heap.size wx w') := Lib.hid (fun wx hx => r16list_any (w := wx) y.res y.white HY.out.z y.oa y.ol y.oc y.orig HY.out.l (by omega) (HY.out.at_.below2 (Nat.le_refl _) hx) HY.out.iz origin)
      have SB : Hid (∀ wx, Below wz.heap.size wz wx → (fun wx => wx.cell? ⟨w1.heap.size, 4, none⟩ = some (.slice (some ⟨xb, xo, none⟩) n c4) ∧ (wx.cell? ⟨xb, xo + j * 3, none⟩ = some (.string y.res) ∧ wx.cell? ⟨xb, xo + j * 3 + 1, none⟩ = some (.bool y.white) ∧ wx.cell? ⟨xb, xo + j * 3 + 2, none⟩ = some (.slice z.oa z.ol z.oc)) ∧ (wx.cell? ⟨yb, yo + j * 3, none⟩ = some (.string y.res) ∧ wx.cell? ⟨yb, yo + j * 3 + 1, none⟩ = some (.bool y.white) ∧ wx.cell? ⟨yb, yo + j * 3 + 2, none⟩ = some (.slice y.oa y.ol y.oc)) ∧ Below wz.heap.size wz wx) wx) := Lib.hid (fun wx hb => ⟨(hb.cell (p := ⟨w1.heap.size, 4, none⟩) hlp).trans p4, ⟨(hb.cell (p := ⟨xb, xo + j * 3, none⟩) hxl).trans c0, (hb.cell (p := ⟨xb, xo + j * 3 + 1, none⟩) hxl).trans c1, (hb.cell (p := ⟨xb, xo + j * 3 + 2, none⟩) hxl).trans cc⟩, ⟨(hb.cell (p := ⟨yb, yo + j * 3, none⟩) hyl).trans d0, (hb.cell (p := ⟨yb, yo + j * 3 + 1, none⟩) hyl).trans d1, (hb.cell (p := ⟨yb, yo + j * 3 + 2, none⟩) hyl).trans d2⟩, hb⟩)
      generalize listB y.res y.white y.orig origin = LB at *
      clear c0 c1 cc d0 d1 d2 p0 p1 p2 p3 hy hz e1 e2 e3 hyo hzo hlp hyl hxl hw1z
      cases LB
      all_goals
        as_aux_lemma =>
          go_wp2_with (fail)
          refine wp_region_noPanic ?_
          refine wp_region_held_drew (S := (fun wx => wx.cell? ⟨w1.heap.size, 4, none⟩ = some (.slice (some ⟨xb, xo, none⟩) n c4) ∧ (wx.cell? ⟨xb, xo + j * 3, none⟩ = some (.string y.res) ∧ wx.cell? ⟨xb, xo + j * 3 + 1, none⟩ = some (.bool y.white) ∧ wx.cell? ⟨xb, xo + j * 3 + 2, none⟩ = some (.slice z.oa z.ol z.oc)) ∧ (wx.cell? ⟨yb, yo + j * 3, none⟩ = some (.string y.res) ∧ wx.cell? ⟨yb, yo + j * 3 + 1, none⟩ = some (.bool y.white) ∧ wx.cell? ⟨yb, yo + j * 3 + 2, none⟩ = some (.slice y.oa y.ol y.oc)) ∧ Below wz.heap.size wz wx)) (by kernel_rfl) ?_ (fun hHeld => ?_)
          · exact SB.out _ (Below.refl _ _).drew
          refine wpAnyH_take (i := 0) (v := ?_) rfl (by kernel_rfl) (by kernel_rfl) (by kernel_rfl) (fun _ _ _ h => h) (Or.inl ⟨by rfl, ?hy⟩) (by assumption) ?_
          case hy => intro w hSw; (try dsimp only at hSw); go_simp; try with_reducible rfl
          try simp only [Act.put, List.getElem_toArray, List.getElem_cons_succ, List.getElem_cons_zero, List.setIfInBounds_toArray, List.set_cons_zero, List.set_cons_succ]
          refine wpAnyH_take (i := 1) (v := ?_) rfl (by kernel_rfl) (by kernel_rfl) (by kernel_rfl) (fun _ _ _ h => h) (Or.inl ⟨by rfl, ?hy⟩) (by assumption) ?_
          case hy => intro w hSw; (try dsimp only at hSw); go_simp; try with_reducible rfl
          try simp only [Act.put, List.getElem_toArray, List.getElem_cons_succ, List.getElem_cons_zero, List.setIfInBounds_toArray, List.set_cons_zero, List.set_cons_succ]
          refine wpAnyH_take (i := 2) (v := ?_) rfl (by kernel_rfl) (by kernel_rfl) (by kernel_rfl) (fun _ _ _ h => h) (Or.inl ⟨by rfl, ?hy⟩) (by assumption) ?_
          case hy => intro w hSw; (try dsimp only at hSw); go_simp; try with_reducible rfl
          try simp only [Act.put, List.getElem_toArray, List.getElem_cons_succ, List.getElem_cons_zero, List.setIfInBounds_toArray, List.set_cons_zero, List.set_cons_succ]
          refine wpAnyH_take (i := 3) (v := ?_) rfl (by kernel_rfl) (by kernel_rfl) (by kernel_rfl) (fun _ _ _ h => h) (Or.inl ⟨by rfl, ?hy⟩) (by assumption) ?_
          case hy => intro w hSw; (try dsimp only at hSw); go_simp; try with_reducible rfl
          try simp only [Act.put, List.getElem_toArray, List.getElem_cons_succ, List.getElem_cons_zero, List.setIfInBounds_toArray, List.set_cons_zero, List.set_cons_succ]
          refine wpAnyH_take (i := 4) (v := ?_) rfl (by kernel_rfl) (by kernel_rfl) (by kernel_rfl) (fun _ _ _ h => h) (Or.inl ⟨by rfl, ?hy⟩) (by assumption) ?_
          case hy => intro w hSw; (try dsimp only at hSw); go_simp; try with_reducible rfl
          try simp only [Act.put, List.getElem_toArray, List.getElem_cons_succ, List.getElem_cons_zero, List.setIfInBounds_toArray, List.set_cons_zero, List.set_cons_succ]
          refine wpAnyH_take (i := 5) (v := ?_) rfl (by kernel_rfl) (by kernel_rfl) (by kernel_rfl) (fun _ _ _ h => h) (Or.inl ⟨by rfl, ?hy⟩) (by assumption) ?_
          case hy => intro w hSw; (try dsimp only at hSw); go_simp; try with_reducible rfl
          try simp only [Act.put, List.getElem_toArray, List.getElem_cons_succ, List.getElem_cons_zero, List.setIfInBounds_toArray, List.set_cons_zero, List.set_cons_succ]
          refine wpAnyH_take (i := 7) (v := ?_) rfl (by kernel_rfl) (by kernel_rfl) (by kernel_rfl) (fun _ _ _ h => h) (Or.inl ⟨by rfl, ?hy⟩) (by assumption) ?_
          case hy => intro w hSw; (try dsimp only at hSw); go_simp; try with_reducible rfl
          try simp only [Act.put, List.getElem_toArray, List.getElem_cons_succ, List.getElem_cons_zero, List.setIfInBounds_toArray, List.set_cons_zero, List.set_cons_succ]
          refine wpAnyH_take (i := 8) (v := ?_) rfl (by kernel_rfl) (by kernel_rfl) (by kernel_rfl) (fun _ _ _ h => h) (Or.inl ⟨by rfl, ?hy⟩) (by assumption) ?_
          case hy => intro w hSw; (try dsimp only at hSw); go_simp; try with_reducible rfl
          try simp only [Act.put, List.getElem_toArray, List.getElem_cons_succ, List.getElem_cons_zero, List.setIfInBounds_toArray, List.set_cons_zero, List.set_cons_succ]
          refine wpAnyH_take (i := 9) (v := ?_) rfl (by kernel_rfl) (by kernel_rfl) (by kernel_rfl) (fun _ _ _ h => h) (Or.inl ⟨by rfl, ?hy⟩) (by assumption) ?_
          case hy => intro w hSw; (try dsimp only at hSw); go_simp; try with_reducible rfl
          try simp only [Act.put, List.getElem_toArray, List.getElem_cons_succ, List.getElem_cons_zero, List.setIfInBounds_toArray, List.set_cons_zero, List.set_cons_succ]
          refine wpAnyH_take (i := 10) (v := ?_) rfl (by kernel_rfl) (by kernel_rfl) (by kernel_rfl) (fun _ _ _ h => h) (Or.inl ⟨by rfl, ?hy⟩) (by assumption) ?_
          case hy => intro w hSw; (try dsimp only at hSw); go_simp; try with_reducible rfl
          try simp only [Act.put, List.getElem_toArray, List.getElem_cons_succ, List.getElem_cons_zero, List.setIfInBounds_toArray, List.set_cons_zero, List.set_cons_succ]
          refine wpAnyH_take (i := 11) (v := ?_) rfl (by kernel_rfl) (by kernel_rfl) (by kernel_rfl) (fun _ _ _ h => h) (Or.inl ⟨by rfl, ?hy⟩) (by assumption) ?_
          case hy => intro w hSw; (try dsimp only at hSw); go_simp; try with_reducible rfl
          try simp only [Act.put, List.getElem_toArray, List.getElem_cons_succ, List.getElem_cons_zero, List.setIfInBounds_toArray, List.set_cons_zero, List.set_cons_succ]
          refine wpAnyH_ready (rs := [6]) (by kernel_rfl) (by simp) (AllReadyH.cons rfl (fun K hK => ?_) AllReadyH.nil)
          go_simp
          go_at_call 13; refine (HX1.out _ hHeld.2.2.2).mono ?_; rintro e wq ⟨rfl, hbq⟩
          try (go_wp2_with fail)
          refine hK.out _ _ ?_ (fun hHeld => ?_)
          · exact SB.out _ (hHeld.2.2.2.trans (hbq.mono hHeld.2.2.2.size))
          clear hK K
          try simp only [Act.put, List.getElem_toArray, List.getElem_cons_succ, List.getElem_cons_zero, List.setIfInBounds_toArray, List.set_cons_zero, List.set_cons_succ]
          refine wpAnyH_ready (rs := [12]) (by kernel_rfl) (by simp) (AllReadyH.cons rfl (fun K hK => ?_) AllReadyH.nil)
          go_simp
          go_at_call 14; refine (HX2.out _ hHeld.2.2.2).mono ?_; rintro e wq ⟨rfl, hbq⟩
          try (go_wp2_with fail)
          refine hK.out _ _ ?_ (fun hHeld => ?_)
          · exact SB.out _ (hHeld.2.2.2.trans (hbq.mono hHeld.2.2.2.size))
          clear hK K
          try simp only [Act.put, List.getElem_toArray, List.getElem_cons_succ, List.getElem_cons_zero, List.setIfInBounds_toArray, List.set_cons_zero, List.set_cons_succ]
          refine wpAnyH_take (i := 13) (v := ?_) rfl (by kernel_rfl) (by kernel_rfl) (by kernel_rfl) (fun _ _ _ h => h) (Or.inl ⟨by rfl, ?hy⟩) (by assumption) ?_
          case hy => intro w hSw; (try dsimp only at hSw); go_simp; try with_reducible rfl
          try simp only [Act.put, List.getElem_toArray, List.getElem_cons_succ, List.getElem_cons_zero, List.setIfInBounds_toArray, List.set_cons_zero, List.set_cons_succ]
          refine wpAnyH_done (by kernel_rfl) ?_ _
          refine NoPanic.normal ?_
          go_wp2_with (fail)
          exact ⟨⟨j + 1, by omega, by go_num, Lib.hid (HBZ.out.trans (hHeld.2.2.2.mono HBZ.out.size))⟩, by first | (simp [intOf]; done) | (simp [intOf]; omega)⟩
    · have j1 : ¬ (j : Int) < n := by omega
      obtain ⟨p0, p1, p2, p3, p4⟩ := HBX.out _ HBZ.out
      have HKZ := Lib.hid (HKC.out _ hw1z)
      have HWZ := Lib.hid (HB1.out.trans (hw1z.mono HB1.out.size))
      clear hw1z
      go_wp2_with (fail)
      refine HKZ.out.mono ?_
      rintro e w5 ⟨rfl, hb5⟩
      have HB5 := Lib.hid (HWZ.out.trans (hb5.mono HWZ.out.size))
      clear hb5
      go_wp2_with (fail)
      go_ret
      exact ⟨rfl, HB5.out⟩
end Go.Proofs.Ytnobfmlfhaaghaa
