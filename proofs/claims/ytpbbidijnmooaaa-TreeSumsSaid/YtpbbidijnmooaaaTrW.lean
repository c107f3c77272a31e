/- TreeOwn. -/
import Derived.Test.YtpbbidijnmooaaaTrV
namespace Go.Proofs.Ytpbbidijnmooaaa
open Go.RowKit
set_option linter.unusedVariables false
set_option linter.unusedSimpArgs false

theorem TRes.kept {w wx wy : World} {s : TreeS} {t : TreeV} (h : TRes w wx s t) (hk : ∀ i, TOwn t i → wy.heap[i]? = wx.heap[i]?) (hb : Below w.heap.size w wy) : TRes w wy s t := ⟨h.at_.kept hk, h.m, h.last, h.top, h.own, hb⟩
theorem TRes.set {w wx : World} {s : TreeS} {t : TreeV} (h : TRes w wx s t) {g o : Nat} (hg : ¬ TOwn t g) (h0 : w.heap.size ≤ g) (u : Value) : TRes w (wx.setCell ⟨g, o, none⟩ u) s t :=
  h.kept (fun i hi => heap_setCell_other wx _ i _ (fun e => hg (by rw [← show i = g from e]; exact hi))) (h.bel.setCell (p := ⟨g, o, none⟩) h0 u)
/-- What a sum of one node of a tree of the call's own tells. -/
theorem tres_sumone {w wx : World} {s : TreeS} {t : TreeV} (h : TRes w wx s t) {TB : Nat} (ht : t.tb = TB) (q : KeyS) (hq : q ∈ keysM s.1) (g : Nat) (hg : wx.heap[g]? = some (.cells #[.int .u8 q.kind, .string q.ctx, .string q.res, .string q.org] 30)) :
    Calls Try.prog 10 #[.pointer (some ⟨TB, 0, none⟩), .int .i64 s.2, .slice (some ⟨g, 0, none⟩) 1 1] wx fun e wy => e = .returned (.tuple #[ctV (sumN s.2 (nodesOf s.1 [q])), .int .i64 (flsOf (nodesOf s.1 [q])), .int .i64 0]) ∧ Below wx.heap.size wx wy := by
  refine (tres_sum h ht s.2 (some ⟨g, 0, none⟩) 1 1 [q] rfl (by omega) (keysAt_one hg) (fun x hx => by obtain rfl := List.mem_singleton.1 hx; exact tres_kok h _ hq)).mono (fun e wy hp => ⟨hp.yes ?_, hp.bel⟩)
  have l0 := h.at_.l0
  have l1 := h.at_.l1
  rw [h.last] at l0 l1
  have hs := isSome_mem.2 hq
  unfold sumTE
  rw [show isT s.2 = true from by unfold isT; simp; omega, if_neg (by simp), if_neg (by omega), if_neg]
  intro hany
  obtain ⟨x, hx, hn⟩ := List.any_eq_true.1 hany
  obtain rfl := List.mem_singleton.1 hx
  cases hgm : getM s.1 x with
  | none => rw [hgm] at hs; cases hs
  | some n => rw [hgm] at hn; cases hn
/-- A row of keys of the call's own, of which those from i on are as they were. -/
def KR (w w0 : World) (t : TreeV) (a : Option Addr) (i : Nat) (L : List KeyS) : Prop := ∀ j q, i ≤ j → L[j]? = some q → ∃ g, a = some ⟨g, 0, none⟩ ∧ w0.heap.size ≤ g ∧ ¬ TOwn t g ∧ (∃ cur, w.heap[g]? = some (.cells cur 30 (0, 0))) ∧ w.cell? ⟨g, j * 4, none⟩ = some (.int .u8 q.kind) ∧ w.cell? ⟨g, j * 4 + 1, none⟩ = some (.string q.ctx) ∧ w.cell? ⟨g, j * 4 + 2, none⟩ = some (.string q.res) ∧ w.cell? ⟨g, j * 4 + 3, none⟩ = some (.string q.org)
theorem KR.below {w w' w0 : World} {t : TreeV} {a : Option Addr} {i : Nat} {L : List KeyS} (h : KR w w0 t a i L) (hb : Below w.heap.size w w') : KR w' w0 t a i L := by
  intro j q hj hq
  obtain ⟨g, h1, h2, h3, ⟨cur, h4⟩, c0, c1, c2, c3⟩ := h j q hj hq
  have hl := (Array.getElem?_eq_some_iff.1 h4).1
  exact ⟨g, h1, h2, h3, ⟨cur, (hb.block g hl).trans h4⟩, (hb.cell (p := ⟨g, j * 4, none⟩) hl).trans c0, (hb.cell (p := ⟨g, j * 4 + 1, none⟩) hl).trans c1, (hb.cell (p := ⟨g, j * 4 + 2, none⟩) hl).trans c2, (hb.cell (p := ⟨g, j * 4 + 3, none⟩) hl).trans c3⟩
theorem KR.set {w w0 : World} {t : TreeV} {g i : Nat} {L : List KeyS} (h : KR w w0 t (some ⟨g, 0, none⟩) i L) (u : Value) : KR (w.setCell ⟨g, i * 4 + 2, none⟩ u) w0 t (some ⟨g, 0, none⟩) (i + 1) L := by
  intro j q hj hq
  obtain ⟨g', h1, h2, h3, ⟨cur, h4⟩, c0, c1, c2, c3⟩ := h j q (by omega) hq
  injection h1 with h1
  injection h1 with h1
  subst h1
  refine ⟨g, rfl, h2, h3, ⟨_, heap_setCell_same w g (i * 4 + 2) cur _ u h4⟩, ?_, ?_, ?_, ?_⟩
  · exact cell_far c0 (fun e => by injection e with e1 e2 e3; omega)
  · exact cell_far c1 (fun e => by injection e with e1 e2 e3; omega)
  · exact cell_far c2 (fun e => by injection e with e1 e2 e3; omega)
  · exact cell_far c3 (fun e => by injection e with e1 e2 e3; omega)
theorem kr_of {w w0 wx : World} {M : TreeM} {t : TreeV} {e : Ending} (h : ClPost wx M.length (keysM M) e w) (h0 : w0.heap.size ≤ wx.heap.size) (ht : ∀ i, TOwn t i → i < wx.heap.size) : ∃ a c, e = .returned (.slice a M.length c) ∧ KR w w0 t a 0 (keysM M) ∧ Below wx.heap.size wx w := by
  obtain ⟨a, c, he, ho, hb⟩ := h
  refine ⟨a, c, he, fun j q _ hq => ?_, hb⟩
  obtain ⟨g, rfl, hg, c0, c1, c2, c3⟩ := (keysAt_row ho (keys_len M)).get hq
  have hlt := (ho.lt g rfl).1
  rcases ho.2 with ⟨hn, _⟩ | ⟨g', cp, cur, hh, _, hgg, _⟩
  · cases hn
  · injection hh with h1 h2 h3
    injection h1 with h1
    injection h1 with h1
    subst h1
    exact ⟨g, rfl, by omega, fun hi => by have := ht g hi; omega, ⟨cur, hgg⟩, c0, c1, c2, c3⟩
theorem own_pass {w wn : World} {k : NBk} {last flight : Int} {notes : List NoteW} (hb : Below w.heap.size w wn) (h : NodeAt wn k last flight notes) (hown : ∀ i, NOwn k i → w.heap.size ≤ i) (at_ n : Int) :
    Calls Try.prog 15 #[.pointer (some ⟨k.q, 0, none⟩), .int .i64 at_, .slice (some ⟨wn.heap.size, 0, none⟩) 1 1] (wn.alloc (.cells #[.int .i64 n] 3)) fun e w' => (∃ x, e = .returned (.int .i64 x)) ∧ Below w.heap.size w w' :=
  (spass_one h at_ n).mono (fun e w' hp => by
    refine ⟨⟨_, hp.1⟩, ?_⟩
    by_cases hE : passE last flight at_ [n] = 0
    · exact belowNew hown hb (hp.2.2 hE).2
    · exact hb.trans ((hp.2.1 hE).mono hb.size))
theorem tres_nodek {w wx : World} {s : TreeS} {t : TreeV} (h : TRes w wx s t) {TB : Nat} (ht : t.tb = TB) (q : KeyS) (hq : q ∈ keysM s.1) (at_ n : Int) : Calls Try.prog 14 #[.pointer (some ⟨TB, 0, none⟩), q.v] wx fun e wn => ∃ b, e = .returned (.pointer (some ⟨b, 0, none⟩)) ∧ Calls Try.prog 15 #[.pointer (some ⟨b, 0, none⟩), .int .i64 at_, .slice (some ⟨wn.heap.size, 0, none⟩) 1 1] (wn.alloc (.cells #[.int .i64 n] 3)) fun e w' => (∃ x, e = .returned (.int .i64 x)) ∧ Below wx.heap.size wx w' := by
  subst ht
  refine (tnode_any h.at_ q (tres_kok h q hq)).mono (fun e w' hp => ?_)
  rw [h.m] at hp
  obtain ⟨m, hm⟩ := Option.isSome_iff_exists.1 (isSome_mem.2 hq)
  obtain ⟨k', hk, hn, hown⟩ := hp.yes m hm
  exact ⟨_, hk, own_pass hp.bel hn hown at_ n⟩
theorem fin_cnt {wz wy : World} (h : Below wz.heap.size wz wy) (o : Obj) : wz.heap.size ≤ wy.heap.size ∧ (wy.alloc o).heap[wy.heap.size]? = some o ∧ Below wz.heap.size wz (wy.alloc o) := ⟨h.size, new_blockS wy o, h.alloc h.size o⟩
theorem fin_set {wz wy : World} {g : Nat} (h : Below wz.heap.size wz wy) (hg : wz.heap.size ≤ g) (hc : wy.heap[g]? = some (ctO .zero 32)) (p b d e r m : Int) : wz.heap.size ≤ g ∧ (sixC wy g p b d e r m).heap[g]? = some (ctO ⟨p, b, d, e, r, m⟩ 32) ∧ Below wz.heap.size wz (sixC wy g p b d e r m) := ⟨hg, sixC_same hc p b d e r m, sixC_below h hg p b d e r m⟩
theorem sumw1 (w : World) (K : Obj) : Below w.heap.size w (w.alloc K).drew ∧ (w.alloc K).drew.heap[w.heap.size]? = some K := ⟨((Below.refl _ _).alloc (Nat.le_refl _) _).drew, new_blockS w K⟩
theorem sumw2 (w : World) (K C : Obj) : Below w.heap.size w ((w.alloc K).alloc C).drew ∧ ((w.alloc K).alloc C).drew.heap[w.heap.size]? = some K ∧ ((w.alloc K).alloc C).drew.heap[w.heap.size + 1]? = some C ∧ w.heap.size + 1 < ((w.alloc K).alloc C).drew.heap.size := by
  refine ⟨(((Below.refl _ _).alloc (Nat.le_refl _) _).alloc (by simp) _).drew, ?_, ?_, ?_⟩
  · exact (Below.heap_alloc (w.alloc K) C w.heap.size (by simp)).trans (new_blockS w K)
  · have := new_blockS (w.alloc K) C
    rw [show (w.alloc K).heap.size = w.heap.size + 1 by simp] at this
    exact this
  · show _ < ((w.alloc K).alloc C).heap.size; simp
theorem sumw3 (w : World) (K C : Obj) : Below w.heap.size w ((w.alloc C).alloc K).drew ∧ ((w.alloc C).alloc K).drew.heap[w.heap.size + 1]? = some K ∧ ((w.alloc C).alloc K).drew.heap[w.heap.size]? = some C ∧ w.heap.size < ((w.alloc C).alloc K).drew.heap.size := by
  obtain ⟨h1, h2, h3, h4⟩ := sumw2 w C K
  exact ⟨h1, h3, h2, by omega⟩

set_option maxHeartbeats 12800000 in
set_option maxRecDepth 100000 in
theorem trown_walk {w : World} {a : Option Addr} {n cap : Nat} {ds : List TDeed} (hn : ds.length = n) (hm : n ≤ 1173124812070) (hrow : DeedRow w a ds) (hok : ∀ d, d ∈ ds → d.Ok) (atq : Int) :
    Calls Try.prog 4 #[.slice a n cap, .int .i64 atq] w fun e w' => e = .returned (.bool true) ∧ Below w.heap.size w w' := by
  have HRUN := Lib.hid (fun (wx : World) (hx : Below w.heap.size w wx) => trun_any (cap := cap) hn hm (hrow.below (Nat.le_refl _) hx) hok)
  obtain ⟨S, hS⟩ : ∃ S, runT ds = S := ⟨_, rfl⟩
  rw [hS] at HRUN
  obtain ⟨nP, hnP⟩ : ∃ nP, S.1.length = nP := ⟨_, rfl⟩
  have HNP := Lib.hid hnP
  clear hn hm hrow hok hS hnP
  go_enter Try.func4, Try.ntmps4
  go_wp2_with (fail)
  refine (trlive_any _).mono ?_
  rintro e w0 ⟨rfl, hb0⟩
  have HB0 := Lib.hid hb0
  clear hb0
  go_wp2_with (fail)
  refine (HRUN.out _ HB0.out).mono ?_
  rintro e w1 ⟨t, rfl, h1⟩
  obtain ⟨TB, ht⟩ : ∃ TB, t.tb = TB := ⟨_, rfl⟩
  rw [ht]
  have HT1 := Lib.hid h1
  have hfew : nP ≤ 512 := by rw [← HNP.out]; exact tres_few h1
  have HAL := Lib.hid (tres_all h1 ht)
  clear h1
  go_wp2_with (fail)
  refine HAL.out.mono ?_
  intro e w2 hp2
  obtain ⟨a2, c2, rfl, hk2, hb2⟩ := kr_of hp2 HT1.out.bel.size (fun i hi => HT1.out.at_.lt hi)
  rw [HNP.out]
  have HT2 := Lib.hid (HT1.out.below hb2)
  have HK2 := Lib.hid hk2
  clear hp2 hk2 hb2 HAL HT1
  go_wp2_with (fail)
  go_loopw [7, 8] (fun x7 _ wz => ∃ i : Nat, i ≤ nP ∧ x7 = .int .i64 i ∧ Hid (TRes w0 wz S t) ∧ Hid (KR wz w0 t a2 i (keysM S.1))) (fun x7 _ _ => nP - (intOf x7).toNat)
  case atStart => exact ⟨0, Nat.zero_le _, rfl, HT2, HK2⟩
  case round =>
    rename World => wz
    obtain ⟨i, hi, rfl, HTZ, HKZ⟩ := hrel
    by_cases hilt : i < nP
    · obtain ⟨q, hq⟩ : ∃ q, (keysM S.1)[i]? = some q := ⟨_, List.getElem?_eq_getElem (by rw [keys_len, HNP.out]; exact hilt)⟩
      obtain ⟨g, rfl, hg0, hgt, ⟨cur, hcur⟩, d0, d1, d2, d3⟩ := HKZ.out i q (Nat.le_refl _) hq
      have HGT := Lib.hid (And.intro hg0 hgt)
      have HCUR := Lib.hid (show wz.heap[g]? = some (.cells cur 30) from hcur)
      have HNK := Lib.hid (tres_nodek HTZ.out ht q (List.mem_of_getElem? hq) atq 5)
      have i0 : (0 : Int) ≤ i := by omega
      have i1 : (i : Int) < nP := by omega
      have hd2 := d2
      obtain ⟨kind, qctx, qres, qorg⟩ := q
      unfold KeyS.v at HNK
      dsimp only at HNK d0 d1 d2 d3 hd2
      have HD2 := Lib.hid hd2
      clear hq hg0 hgt hcur hd2
      go_wp2_with (fail)
      refine HNK.out.mono ?_
      rintro e wn ⟨bn, rfl, hps⟩
      have HPS := Lib.hid hps
      clear hps d0 d1 d2 d3
      go_wp2_with (fail)
      refine HPS.out.mono ?_
      rintro e w9 ⟨⟨xE, rfl⟩, hb9⟩
      have hl := (Array.getElem?_eq_some_iff.1 HCUR.out).1
      have hc9 := (hb9.block g hl).trans HCUR.out
      have d2 := (hb9.cell (p := ⟨g, i * 4 + 2, none⟩) hl).trans HD2.out
      have hf : w9.frozen? ⟨g, i * 4 + 2, none⟩ = false := by simp [World.frozen?, hc9]
      have HB9 := Lib.hid hb9
      clear hc9 hl hb9
      go_wp2_with (fail)
      exact ⟨⟨i + 1, by omega, by go_num, Lib.hid ((HTZ.out.below HB9.out).set HGT.out.2 HGT.out.1 _), Lib.hid ((HKZ.out.below HB9.out).set _)⟩, by first | (simp [intOf]; done) | (simp [intOf]; omega)⟩
    · have i1 : ¬ (i : Int) < nP := by omega
      have HBZ := Lib.hid (HB0.out.trans (HTZ.out.bel.mono HB0.out.size))
      clear HT2 HK2
      go_wp2_with (fail)
      refine (HRUN.out _ HBZ.out).mono ?_
      rintro e w3 ⟨tu, rfl, h3⟩
      obtain ⟨TU, htu⟩ : ∃ TU, tu.tb = TU := ⟨_, rfl⟩
      rw [htu]
      have HU3 := Lib.hid h3
      have HT3 := Lib.hid (HTZ.out.below h3.bel)
      have HA3 := Lib.hid (tres_all HT3.out ht)
      clear h3
      go_wp2_with (fail)
      refine HA3.out.mono ?_
      intro e w4 hp4
      obtain ⟨a4, c4, rfl, hk4, _, hb4⟩ := cl_keys hp4
      rw [HNP.out]
      have HK4 := Lib.hid hk4
      have HT4 := Lib.hid (HT3.out.below hb4)
      have HU4 := Lib.hid (HU3.out.below hb4)
      have HA4 := Lib.hid (tres_all HU4.out htu)
      clear hp4 hk4 hb4 HA3
      go_wp2_with (fail)
      refine HA4.out.mono ?_
      intro e w5 hp5
      obtain ⟨a5, c5, rfl, hk5, _, hb5⟩ := cl_keys hp5
      rw [HNP.out]
      have HK5 := Lib.hid hk5
      have HK4 := Lib.hid (HK4.out.below hb5)
      have HT5 := Lib.hid (HT4.out.below hb5)
      have HU5 := Lib.hid (HU4.out.below hb5)
      clear hp5 hk5 hb5 HA4 HT3 HU3 HT4 HU4 HTZ
      go_wp2_with (fail)
      go_loopw [12, 13, 14, 15, 16, 17, 18] (fun x12 _ _ _ _ _ _ wz => ∃ i : Nat, i ≤ nP ∧ x12 = .int .i64 i ∧ Hid (Below w5.heap.size w5 wz)) (fun x12 _ _ _ _ _ _ _ => nP - (intOf x12).toNat)
      case atStart => exact ⟨0, Nat.zero_le _, rfl, Lib.hid (Below.refl _ _)⟩
      case round =>
        rename World => wy
        obtain ⟨i, hi, rfl, HBY⟩ := hrel
        by_cases hilt : i < nP
        · obtain ⟨q, hq⟩ : ∃ q, (keysM S.1)[i]? = some q := ⟨_, List.getElem?_eq_getElem (by rw [keys_len, HNP.out]; exact hilt)⟩
          have hka := HK4.out.below HBY.out
          have hkb := HK5.out.below HBY.out
          obtain ⟨g4, rfl, hg4, d0, d1, d2, d3⟩ := hka.get hq
          obtain ⟨g5, rfl, hg5, e0, e1, e2, e3⟩ := hkb.get hq
          have HQM := Lib.hid (List.mem_of_getElem? hq)
          obtain ⟨kind, qctx, qres, qorg⟩ := q
          dsimp only at d0 d1 d2 d3 e0 e1 e2 e3 HQM
          have HKA := Lib.hid (fun (wx : World) (hx : Below wy.heap.size wy wx) => (show wx.cell? ⟨g4, i * 4, none⟩ = some (.int .u8 kind) ∧ wx.cell? ⟨g4, i * 4 + 1, none⟩ = some (.string qctx) ∧ wx.cell? ⟨g4, i * 4 + 2, none⟩ = some (.string qres) ∧ wx.cell? ⟨g4, i * 4 + 3, none⟩ = some (.string qorg) from by
            obtain ⟨_, r1, _, d0, d1, d2, d3⟩ := (hka.below hx).get hq
            cases r1
            exact ⟨d0, d1, d2, d3⟩))
          have HKB := Lib.hid (fun (wx : World) (hx : Below wy.heap.size wy wx) => (show wx.cell? ⟨g5, i * 4, none⟩ = some (.int .u8 kind) ∧ wx.cell? ⟨g5, i * 4 + 1, none⟩ = some (.string qctx) ∧ wx.cell? ⟨g5, i * 4 + 2, none⟩ = some (.string qres) ∧ wx.cell? ⟨g5, i * 4 + 3, none⟩ = some (.string qorg) from by
            obtain ⟨_, r1, _, d0, d1, d2, d3⟩ := (hkb.below hx).get hq
            cases r1
            exact ⟨d0, d1, d2, d3⟩))
          have HTY := Lib.hid (HT5.out.below HBY.out)
          have HUY := Lib.hid (HU5.out.below HBY.out)
          have i0 : (0 : Int) ≤ i := by omega
          have i1 : (i : Int) < nP := by omega
          obtain ⟨XC, hXC⟩ : ∃ XC, sumN S.2 (nodesOf S.1 [⟨kind, qctx, qres, qorg⟩]) = XC := ⟨_, rfl⟩
          obtain ⟨FL, hFL⟩ : ∃ FL, flsOf (nodesOf S.1 [⟨kind, qctx, qres, qorg⟩]) = FL := ⟨_, rfl⟩
          obtain ⟨xp, xb, xd, xe, xr, xm⟩ := XC
          have HXC := Lib.hid hXC
          have HFL := Lib.hid hFL
          clear hq hka hkb hXC hFL e0 e1 e2 e3
          have HL19 := Lib.hid (fun (wx : World) (hx : Below wy.heap.size wy wx) => tres_last (HTY.out.below hx) ht)
          have HS19 := Lib.hid (fun (wx : World) (gk : Nat) (hx : Below wy.heap.size wy wx) (hg : wx.heap[gk]? = some (.cells #[.int .u8 kind, .string qctx, .string qres, .string qorg] 30)) => tres_sumone (HTY.out.below hx) ht ⟨kind, qctx, qres, qorg⟩ HQM.out gk hg)
          have HBwy0 := Lib.hid (show Below wy.heap.size wy wy.drew from (Below.refl _ _).drew)
          rw [HXC.out, HFL.out] at HS19
          unfold ctV at HS19
          dsimp only at HS19
          go_upto_region 19 with (fail)
          go_cut [13, 14, 15] from 58 to 113 (fun x y z wx => ∃ B, x = .pointer (some ⟨B, 0, none⟩) ∧ y = .int .i64 FL ∧ z = .int .i64 0 ∧ Hid (wy.heap.size ≤ B ∧ wx.heap[B]? = some (.cells #[.int .i64 xp, .int .i64 xb, .int .i64 xd, .int .i64 xe, .int .i64 xr, .int .i64 xm] 32) ∧ Below wy.heap.size wy wx))
          case first =>
            refine wp_region_noPanic ?_
            refine wp_region_held_drew (S := (fun wx => wx.cell? ⟨g4, i * 4, none⟩ = some (.int .u8 kind) ∧ wx.cell? ⟨g4, i * 4 + 1, none⟩ = some (.string qctx) ∧ wx.cell? ⟨g4, i * 4 + 2, none⟩ = some (.string qres) ∧ wx.cell? ⟨g4, i * 4 + 3, none⟩ = some (.string qorg))) (by kernel_rfl) ?_ (fun hHeld => ?_)
            · exact HKA.out _ HBwy0.out
            refine wpAnyH_take (i := 0) (v := ?_) rfl (by kernel_rfl) (by kernel_rfl) (by kernel_rfl) (fun _ _ _ h => h) (Or.inl ⟨by rfl, ?hy⟩) (by assumption) ?_
            case hy => intro w hSw; (try dsimp only at hSw); go_simp; try with_reducible rfl
            try simp only [Act.put, List.getElem_toArray, List.getElem_cons_succ, List.getElem_cons_zero, List.setIfInBounds_toArray, List.set_cons_zero, List.set_cons_succ]
            refine wpAnyH_take (i := 1) (v := ?_) rfl (by kernel_rfl) (by kernel_rfl) (by kernel_rfl) (fun _ _ _ h => h) (Or.inl ⟨by rfl, ?hy⟩) (by assumption) ?_
            case hy => intro w hSw; (try dsimp only at hSw); go_simp; try with_reducible rfl
            try simp only [Act.put, List.getElem_toArray, List.getElem_cons_succ, List.getElem_cons_zero, List.setIfInBounds_toArray, List.set_cons_zero, List.set_cons_succ]
            refine wpAnyH_take (i := 3) (v := ?_) rfl (by kernel_rfl) (by kernel_rfl) (by kernel_rfl) (fun _ _ _ h => h) (Or.inl ⟨by rfl, ?hy⟩) (by assumption) ?_
            case hy => intro w hSw; (try dsimp only at hSw); go_simp; try with_reducible rfl
            try simp only [Act.put, List.getElem_toArray, List.getElem_cons_succ, List.getElem_cons_zero, List.setIfInBounds_toArray, List.set_cons_zero, List.set_cons_succ]
            refine wpAnyH_take (i := 4) (v := ?_) rfl (by kernel_rfl) (by kernel_rfl) (by kernel_rfl) (fun _ _ _ h => h) (Or.inl ⟨by rfl, ?hy⟩) (by assumption) ?_
            case hy => intro w hSw; (try dsimp only at hSw); go_simp; try with_reducible rfl
            try simp only [Act.put, List.getElem_toArray, List.getElem_cons_succ, List.getElem_cons_zero, List.setIfInBounds_toArray, List.set_cons_zero, List.set_cons_succ]
            refine wpAnyH_take (i := 5) (v := ?_) rfl (by kernel_rfl) (by kernel_rfl) (by kernel_rfl) (fun _ _ _ h => h) (Or.inl ⟨by rfl, ?hy⟩) (by assumption) ?_
            case hy => intro w hSw; (try dsimp only at hSw); go_simp; try with_reducible rfl
            try simp only [Act.put, List.getElem_toArray, List.getElem_cons_succ, List.getElem_cons_zero, List.setIfInBounds_toArray, List.set_cons_zero, List.set_cons_succ]
            refine wpAnyH_take (i := 6) (v := ?_) rfl (by kernel_rfl) (by kernel_rfl) (by kernel_rfl) (fun _ _ _ h => h) (Or.inl ⟨by rfl, ?hy⟩) (by assumption) ?_
            case hy => intro w hSw; (try dsimp only at hSw); go_simp; try with_reducible rfl
            try simp only [Act.put, List.getElem_toArray, List.getElem_cons_succ, List.getElem_cons_zero, List.setIfInBounds_toArray, List.set_cons_zero, List.set_cons_succ]
            obtain ⟨wd19, hwd19⟩ : ∃ x, wy.drew = x := ⟨_, rfl⟩
            have HBwd19 := Lib.hid (show Below wy.heap.size wy wd19 from by rw [← hwd19]; exact (Below.refl _ _).drew)
            simp only [hwd19] at hHeld ⊢
            clear hwd19
            refine wpAnyH_ready (rs := [2, 7, 13]) (by kernel_rfl) (by simp) (AllReadyH.cons rfl (fun K hK => ?_) (AllReadyH.cons rfl (fun K hK => ?_) (AllReadyH.cons rfl (fun K hK => ?_) AllReadyH.nil)))
            · go_simp
              go_at_call 11
              refine (HL19.out wd19 HBwd19.out).mono ?_
              rintro e wl1 ⟨rfl, hq⟩
              rw [hq]
              clear hq
              try (go_wp2_with fail)
              refine hK.out _ _ ?_ (fun hHeld => ?_)
              · exact HKA.out _ HBwd19.out
              clear hK K
              try simp only [Act.put, List.getElem_toArray, List.getElem_cons_succ, List.getElem_cons_zero, List.setIfInBounds_toArray, List.set_cons_zero, List.set_cons_succ]
              refine wpAnyH_ready (rs := [7, 13]) (by kernel_rfl) (by simp) (AllReadyH.cons rfl (fun K hK => ?_) (AllReadyH.cons rfl (fun K hK => ?_) AllReadyH.nil))
              · go_simp
                try (go_wp2_with fail)
                obtain ⟨wa19x2, hwa19x2⟩ : ∃ x, wd19.alloc (.cells #[.int .u8 kind, .string qctx, .string qres, .string qorg] 30) = x := ⟨_, rfl⟩
                have HAwa19x2 := Lib.hid (show Below wd19.heap.size wd19 wa19x2 from by rw [← hwa19x2]; exact (Below.refl _ _).alloc (Nat.le_refl _) _)
                have HNwa19x2 := Lib.hid (show wa19x2.heap[wd19.heap.size]? = some (.cells #[.int .u8 kind, .string qctx, .string qres, .string qorg] 30) from by rw [← hwa19x2]; exact new_blockS wd19 _)
                have HBwa19x2 := Lib.hid (HBwd19.out.trans (HAwa19x2.out.mono HBwd19.out.size))
                have HKwa19x2 := HNwa19x2
                rw [hwa19x2]
                clear hwa19x2
                refine hK.out _ _ ?_ (fun hHeld => ?_)
                · exact HKA.out _ HBwa19x2.out
                clear hK K
                try simp only [Act.put, List.getElem_toArray, List.getElem_cons_succ, List.getElem_cons_zero, List.setIfInBounds_toArray, List.set_cons_zero, List.set_cons_succ]
                refine wpAnyH_ready (rs := [8, 13]) (by kernel_rfl) (by simp) (AllReadyH.cons rfl (fun K hK => ?_) (AllReadyH.cons rfl (fun K hK => ?_) AllReadyH.nil))
                · go_simp
                  go_at_call 10
                  refine (HS19.out wa19x2 _ HBwa19x2.out HKwa19x2.out).mono ?_
                  rintro e ws19x3 ⟨rfl, hby⟩
                  have HBws19x3 := Lib.hid (HBwa19x2.out.trans (hby.mono HBwa19x2.out.size))
                  have HKws19x3 := Lib.hid (hby.block _ (Array.getElem?_eq_some_iff.1 HKwa19x2.out).1 |>.trans HKwa19x2.out)
                  clear hby
                  try (go_wp2_with fail)
                  refine hK.out _ _ ?_ (fun hHeld => ?_)
                  · exact HKA.out _ HBws19x3.out
                  clear hK K
                  try simp only [Act.put, List.getElem_toArray, List.getElem_cons_succ, List.getElem_cons_zero, List.setIfInBounds_toArray, List.set_cons_zero, List.set_cons_succ]
                  refine wpAnyH_take (i := 9) (v := ?_) rfl (by kernel_rfl) (by kernel_rfl) (by kernel_rfl) (fun _ _ _ h => h) (Or.inl ⟨by rfl, ?hy⟩) (by assumption) ?_
                  case hy => intro w hSw; (try dsimp only at hSw); go_simp; try with_reducible rfl
                  try simp only [Act.put, List.getElem_toArray, List.getElem_cons_succ, List.getElem_cons_zero, List.setIfInBounds_toArray, List.set_cons_zero, List.set_cons_succ]
                  refine wpAnyH_take (i := 10) (v := ?_) rfl (by kernel_rfl) (by kernel_rfl) (by kernel_rfl) (fun _ _ _ h => h) (Or.inl ⟨by rfl, ?hy⟩) (by assumption) ?_
                  case hy => intro w hSw; (try dsimp only at hSw); go_simp; try with_reducible rfl
                  try simp only [Act.put, List.getElem_toArray, List.getElem_cons_succ, List.getElem_cons_zero, List.setIfInBounds_toArray, List.set_cons_zero, List.set_cons_succ]
                  refine wpAnyH_take (i := 11) (v := ?_) rfl (by kernel_rfl) (by kernel_rfl) (by kernel_rfl) (fun _ _ _ h => h) (Or.inl ⟨by rfl, ?hy⟩) (by assumption) ?_
                  case hy => intro w hSw; (try dsimp only at hSw); go_simp; try with_reducible rfl
                  try simp only [Act.put, List.getElem_toArray, List.getElem_cons_succ, List.getElem_cons_zero, List.setIfInBounds_toArray, List.set_cons_zero, List.set_cons_succ]
                  refine wpAnyH_take (i := 12) (v := ?_) rfl (by kernel_rfl) (by kernel_rfl) (by kernel_rfl) (fun _ _ _ h => h) (Or.inl ⟨by rfl, ?hy⟩) (by assumption) ?_
                  case hy => intro w hSw; (try dsimp only at hSw); go_simp; try with_reducible rfl
                  try simp only [Act.put, List.getElem_toArray, List.getElem_cons_succ, List.getElem_cons_zero, List.setIfInBounds_toArray, List.set_cons_zero, List.set_cons_succ]
                  refine wpAnyH_ready (rs := [13]) (by kernel_rfl) (by simp) (AllReadyH.cons rfl (fun K hK => ?_) AllReadyH.nil)
                  go_simp
                  try (go_wp2_with fail)
                  obtain ⟨wa19x4, hwa19x4⟩ : ∃ x, ws19x3.alloc (.cells #[.int .i64 0, .int .i64 0, .int .i64 0, .int .i64 0, .int .i64 0, .int .i64 0] 32) = x := ⟨_, rfl⟩
                  have HAwa19x4 := Lib.hid (show Below ws19x3.heap.size ws19x3 wa19x4 from by rw [← hwa19x4]; exact (Below.refl _ _).alloc (Nat.le_refl _) _)
                  have HNwa19x4 := Lib.hid (show wa19x4.heap[ws19x3.heap.size]? = some (.cells #[.int .i64 0, .int .i64 0, .int .i64 0, .int .i64 0, .int .i64 0, .int .i64 0] 32) from by rw [← hwa19x4]; exact new_blockS ws19x3 _)
                  have HBwa19x4 := Lib.hid (HBws19x3.out.trans (HAwa19x4.out.mono HBws19x3.out.size))
                  have HKwa19x4 := Lib.hid (HAwa19x4.out.block _ (Array.getElem?_eq_some_iff.1 HKws19x3.out).1 |>.trans HKws19x3.out)
                  have HCwa19x4 := HNwa19x4
                  have HG19 := Lib.hid (show wy.heap.size ≤ ws19x3.heap.size from HBws19x3.out.size)
                  rw [hwa19x4]
                  clear hwa19x4
                  refine hK.out _ _ ?_ (fun hHeld => ?_)
                  · exact HKA.out _ HBwa19x4.out
                  clear hK K
                  try simp only [Act.put, List.getElem_toArray, List.getElem_cons_succ, List.getElem_cons_zero, List.setIfInBounds_toArray, List.set_cons_zero, List.set_cons_succ]
                  refine wpAnyH_ready (rs := [14]) (by kernel_rfl) (by simp) (AllReadyH.cons rfl (fun K hK => ?_) AllReadyH.nil)
                  obtain ⟨⟨z0, z1, z2, z3, z4, z5⟩, zf⟩ := ct_cells (c := .zero) HCwa19x4.out
                  dsimp only [CntS.zero] at z0 z1 z2 z3 z4 z5
                  go_simp
                  have HF19 := Lib.hid (fin_set HBwa19x4.out HG19.out HCwa19x4.out xp xb xd xe xr xm)
                  refine hK.out _ _ ?_ (fun hHeld => ?_)
                  · exact HKA.out _ HF19.out.2.2
                  clear hK K
                  try simp only [Act.put, List.getElem_toArray, List.getElem_cons_succ, List.getElem_cons_zero, List.setIfInBounds_toArray, List.set_cons_zero, List.set_cons_succ]
                  refine wpAnyH_take (i := 15) (v := ?_) rfl (by kernel_rfl) (by kernel_rfl) (by kernel_rfl) (fun _ _ _ h => h) (Or.inl ⟨by rfl, ?hy⟩) (by assumption) ?_
                  case hy => intro w hSw; (try dsimp only at hSw); go_simp; try with_reducible rfl
                  try simp only [Act.put, List.getElem_toArray, List.getElem_cons_succ, List.getElem_cons_zero, List.setIfInBounds_toArray, List.set_cons_zero, List.set_cons_succ]
                  refine wpAnyH_take (i := 16) (v := ?_) rfl (by kernel_rfl) (by kernel_rfl) (by kernel_rfl) (fun _ _ _ h => h) (Or.inl ⟨by rfl, ?hy⟩) (by assumption) ?_
                  case hy => intro w hSw; (try dsimp only at hSw); go_simp; try with_reducible rfl
                  try simp only [Act.put, List.getElem_toArray, List.getElem_cons_succ, List.getElem_cons_zero, List.setIfInBounds_toArray, List.set_cons_zero, List.set_cons_succ]
                  refine wpAnyH_done (by kernel_rfl) ?_ _
                  refine NoPanic.normal ?_
                  try (go_wp2_with fail)
                  go_meet
                  exact ⟨_, rfl, rfl, rfl, HF19⟩
                · go_simp
                  try (go_wp2_with fail)
                  obtain ⟨wa19x6, hwa19x6⟩ : ∃ x, wa19x2.alloc (.cells #[.int .i64 0, .int .i64 0, .int .i64 0, .int .i64 0, .int .i64 0, .int .i64 0] 32) = x := ⟨_, rfl⟩
                  have HAwa19x6 := Lib.hid (show Below wa19x2.heap.size wa19x2 wa19x6 from by rw [← hwa19x6]; exact (Below.refl _ _).alloc (Nat.le_refl _) _)
                  have HNwa19x6 := Lib.hid (show wa19x6.heap[wa19x2.heap.size]? = some (.cells #[.int .i64 0, .int .i64 0, .int .i64 0, .int .i64 0, .int .i64 0, .int .i64 0] 32) from by rw [← hwa19x6]; exact new_blockS wa19x2 _)
                  have HBwa19x6 := Lib.hid (HBwa19x2.out.trans (HAwa19x6.out.mono HBwa19x2.out.size))
                  have HKwa19x6 := Lib.hid (HAwa19x6.out.block _ (Array.getElem?_eq_some_iff.1 HKwa19x2.out).1 |>.trans HKwa19x2.out)
                  have HCwa19x6 := HNwa19x6
                  have HG19 := Lib.hid (show wy.heap.size ≤ wa19x2.heap.size from HBwa19x2.out.size)
                  rw [hwa19x6]
                  clear hwa19x6
                  refine hK.out _ _ ?_ (fun hHeld => ?_)
                  · exact HKA.out _ HBwa19x6.out
                  clear hK K
                  try simp only [Act.put, List.getElem_toArray, List.getElem_cons_succ, List.getElem_cons_zero, List.setIfInBounds_toArray, List.set_cons_zero, List.set_cons_succ]
                  refine wpAnyH_ready (rs := [8]) (by kernel_rfl) (by simp) (AllReadyH.cons rfl (fun K hK => ?_) AllReadyH.nil)
                  go_simp
                  go_at_call 10
                  refine (HS19.out wa19x6 _ HBwa19x6.out HKwa19x6.out).mono ?_
                  rintro e ws19x7 ⟨rfl, hby⟩
                  have HBws19x7 := Lib.hid (HBwa19x6.out.trans (hby.mono HBwa19x6.out.size))
                  have HKws19x7 := Lib.hid (hby.block _ (Array.getElem?_eq_some_iff.1 HKwa19x6.out).1 |>.trans HKwa19x6.out)
                  have HCws19x7 := Lib.hid (hby.block _ (Array.getElem?_eq_some_iff.1 HCwa19x6.out).1 |>.trans HCwa19x6.out)
                  clear hby
                  try (go_wp2_with fail)
                  refine hK.out _ _ ?_ (fun hHeld => ?_)
                  · exact HKA.out _ HBws19x7.out
                  clear hK K
                  try simp only [Act.put, List.getElem_toArray, List.getElem_cons_succ, List.getElem_cons_zero, List.setIfInBounds_toArray, List.set_cons_zero, List.set_cons_succ]
                  refine wpAnyH_take (i := 9) (v := ?_) rfl (by kernel_rfl) (by kernel_rfl) (by kernel_rfl) (fun _ _ _ h => h) (Or.inl ⟨by rfl, ?hy⟩) (by assumption) ?_
                  case hy => intro w hSw; (try dsimp only at hSw); go_simp; try with_reducible rfl
                  try simp only [Act.put, List.getElem_toArray, List.getElem_cons_succ, List.getElem_cons_zero, List.setIfInBounds_toArray, List.set_cons_zero, List.set_cons_succ]
                  refine wpAnyH_take (i := 10) (v := ?_) rfl (by kernel_rfl) (by kernel_rfl) (by kernel_rfl) (fun _ _ _ h => h) (Or.inl ⟨by rfl, ?hy⟩) (by assumption) ?_
                  case hy => intro w hSw; (try dsimp only at hSw); go_simp; try with_reducible rfl
                  try simp only [Act.put, List.getElem_toArray, List.getElem_cons_succ, List.getElem_cons_zero, List.setIfInBounds_toArray, List.set_cons_zero, List.set_cons_succ]
                  refine wpAnyH_take (i := 11) (v := ?_) rfl (by kernel_rfl) (by kernel_rfl) (by kernel_rfl) (fun _ _ _ h => h) (Or.inl ⟨by rfl, ?hy⟩) (by assumption) ?_
                  case hy => intro w hSw; (try dsimp only at hSw); go_simp; try with_reducible rfl
                  try simp only [Act.put, List.getElem_toArray, List.getElem_cons_succ, List.getElem_cons_zero, List.setIfInBounds_toArray, List.set_cons_zero, List.set_cons_succ]
                  refine wpAnyH_take (i := 12) (v := ?_) rfl (by kernel_rfl) (by kernel_rfl) (by kernel_rfl) (fun _ _ _ h => h) (Or.inl ⟨by rfl, ?hy⟩) (by assumption) ?_
                  case hy => intro w hSw; (try dsimp only at hSw); go_simp; try with_reducible rfl
                  try simp only [Act.put, List.getElem_toArray, List.getElem_cons_succ, List.getElem_cons_zero, List.setIfInBounds_toArray, List.set_cons_zero, List.set_cons_succ]
                  refine wpAnyH_ready (rs := [14]) (by kernel_rfl) (by simp) (AllReadyH.cons rfl (fun K hK => ?_) AllReadyH.nil)
                  obtain ⟨⟨z0, z1, z2, z3, z4, z5⟩, zf⟩ := ct_cells (c := .zero) HCws19x7.out
                  dsimp only [CntS.zero] at z0 z1 z2 z3 z4 z5
                  go_simp
                  have HF19 := Lib.hid (fin_set HBws19x7.out HG19.out HCws19x7.out xp xb xd xe xr xm)
                  refine hK.out _ _ ?_ (fun hHeld => ?_)
                  · exact HKA.out _ HF19.out.2.2
                  clear hK K
                  try simp only [Act.put, List.getElem_toArray, List.getElem_cons_succ, List.getElem_cons_zero, List.setIfInBounds_toArray, List.set_cons_zero, List.set_cons_succ]
                  refine wpAnyH_take (i := 15) (v := ?_) rfl (by kernel_rfl) (by kernel_rfl) (by kernel_rfl) (fun _ _ _ h => h) (Or.inl ⟨by rfl, ?hy⟩) (by assumption) ?_
                  case hy => intro w hSw; (try dsimp only at hSw); go_simp; try with_reducible rfl
                  try simp only [Act.put, List.getElem_toArray, List.getElem_cons_succ, List.getElem_cons_zero, List.setIfInBounds_toArray, List.set_cons_zero, List.set_cons_succ]
                  refine wpAnyH_take (i := 16) (v := ?_) rfl (by kernel_rfl) (by kernel_rfl) (by kernel_rfl) (fun _ _ _ h => h) (Or.inl ⟨by rfl, ?hy⟩) (by assumption) ?_
                  case hy => intro w hSw; (try dsimp only at hSw); go_simp; try with_reducible rfl
                  try simp only [Act.put, List.getElem_toArray, List.getElem_cons_succ, List.getElem_cons_zero, List.setIfInBounds_toArray, List.set_cons_zero, List.set_cons_succ]
                  refine wpAnyH_done (by kernel_rfl) ?_ _
                  refine NoPanic.normal ?_
                  try (go_wp2_with fail)
                  go_meet
                  exact ⟨_, rfl, rfl, rfl, HF19⟩
              · go_simp
                try (go_wp2_with fail)
                obtain ⟨wa19x9, hwa19x9⟩ : ∃ x, wd19.alloc (.cells #[.int .i64 0, .int .i64 0, .int .i64 0, .int .i64 0, .int .i64 0, .int .i64 0] 32) = x := ⟨_, rfl⟩
                have HAwa19x9 := Lib.hid (show Below wd19.heap.size wd19 wa19x9 from by rw [← hwa19x9]; exact (Below.refl _ _).alloc (Nat.le_refl _) _)
                have HNwa19x9 := Lib.hid (show wa19x9.heap[wd19.heap.size]? = some (.cells #[.int .i64 0, .int .i64 0, .int .i64 0, .int .i64 0, .int .i64 0, .int .i64 0] 32) from by rw [← hwa19x9]; exact new_blockS wd19 _)
                have HBwa19x9 := Lib.hid (HBwd19.out.trans (HAwa19x9.out.mono HBwd19.out.size))
                have HCwa19x9 := HNwa19x9
                have HG19 := Lib.hid (show wy.heap.size ≤ wd19.heap.size from HBwd19.out.size)
                rw [hwa19x9]
                clear hwa19x9
                refine hK.out _ _ ?_ (fun hHeld => ?_)
                · exact HKA.out _ HBwa19x9.out
                clear hK K
                try simp only [Act.put, List.getElem_toArray, List.getElem_cons_succ, List.getElem_cons_zero, List.setIfInBounds_toArray, List.set_cons_zero, List.set_cons_succ]
                refine wpAnyH_ready (rs := [7]) (by kernel_rfl) (by simp) (AllReadyH.cons rfl (fun K hK => ?_) AllReadyH.nil)
                go_simp
                try (go_wp2_with fail)
                obtain ⟨wa19x10, hwa19x10⟩ : ∃ x, wa19x9.alloc (.cells #[.int .u8 kind, .string qctx, .string qres, .string qorg] 30) = x := ⟨_, rfl⟩
                have HAwa19x10 := Lib.hid (show Below wa19x9.heap.size wa19x9 wa19x10 from by rw [← hwa19x10]; exact (Below.refl _ _).alloc (Nat.le_refl _) _)
                have HNwa19x10 := Lib.hid (show wa19x10.heap[wa19x9.heap.size]? = some (.cells #[.int .u8 kind, .string qctx, .string qres, .string qorg] 30) from by rw [← hwa19x10]; exact new_blockS wa19x9 _)
                have HBwa19x10 := Lib.hid (HBwa19x9.out.trans (HAwa19x10.out.mono HBwa19x9.out.size))
                have HCwa19x10 := Lib.hid (HAwa19x10.out.block _ (Array.getElem?_eq_some_iff.1 HCwa19x9.out).1 |>.trans HCwa19x9.out)
                have HKwa19x10 := HNwa19x10
                rw [hwa19x10]
                clear hwa19x10
                refine hK.out _ _ ?_ (fun hHeld => ?_)
                · exact HKA.out _ HBwa19x10.out
                clear hK K
                try simp only [Act.put, List.getElem_toArray, List.getElem_cons_succ, List.getElem_cons_zero, List.setIfInBounds_toArray, List.set_cons_zero, List.set_cons_succ]
                refine wpAnyH_ready (rs := [8]) (by kernel_rfl) (by simp) (AllReadyH.cons rfl (fun K hK => ?_) AllReadyH.nil)
                go_simp
                go_at_call 10
                refine (HS19.out wa19x10 _ HBwa19x10.out HKwa19x10.out).mono ?_
                rintro e ws19x11 ⟨rfl, hby⟩
                have HBws19x11 := Lib.hid (HBwa19x10.out.trans (hby.mono HBwa19x10.out.size))
                have HKws19x11 := Lib.hid (hby.block _ (Array.getElem?_eq_some_iff.1 HKwa19x10.out).1 |>.trans HKwa19x10.out)
                have HCws19x11 := Lib.hid (hby.block _ (Array.getElem?_eq_some_iff.1 HCwa19x10.out).1 |>.trans HCwa19x10.out)
                clear hby
                try (go_wp2_with fail)
                refine hK.out _ _ ?_ (fun hHeld => ?_)
                · exact HKA.out _ HBws19x11.out
                clear hK K
                try simp only [Act.put, List.getElem_toArray, List.getElem_cons_succ, List.getElem_cons_zero, List.setIfInBounds_toArray, List.set_cons_zero, List.set_cons_succ]
                refine wpAnyH_take (i := 9) (v := ?_) rfl (by kernel_rfl) (by kernel_rfl) (by kernel_rfl) (fun _ _ _ h => h) (Or.inl ⟨by rfl, ?hy⟩) (by assumption) ?_
                case hy => intro w hSw; (try dsimp only at hSw); go_simp; try with_reducible rfl
                try simp only [Act.put, List.getElem_toArray, List.getElem_cons_succ, List.getElem_cons_zero, List.setIfInBounds_toArray, List.set_cons_zero, List.set_cons_succ]
                refine wpAnyH_take (i := 10) (v := ?_) rfl (by kernel_rfl) (by kernel_rfl) (by kernel_rfl) (fun _ _ _ h => h) (Or.inl ⟨by rfl, ?hy⟩) (by assumption) ?_
                case hy => intro w hSw; (try dsimp only at hSw); go_simp; try with_reducible rfl
                try simp only [Act.put, List.getElem_toArray, List.getElem_cons_succ, List.getElem_cons_zero, List.setIfInBounds_toArray, List.set_cons_zero, List.set_cons_succ]
                refine wpAnyH_take (i := 11) (v := ?_) rfl (by kernel_rfl) (by kernel_rfl) (by kernel_rfl) (fun _ _ _ h => h) (Or.inl ⟨by rfl, ?hy⟩) (by assumption) ?_
                case hy => intro w hSw; (try dsimp only at hSw); go_simp; try with_reducible rfl
                try simp only [Act.put, List.getElem_toArray, List.getElem_cons_succ, List.getElem_cons_zero, List.setIfInBounds_toArray, List.set_cons_zero, List.set_cons_succ]
                refine wpAnyH_take (i := 12) (v := ?_) rfl (by kernel_rfl) (by kernel_rfl) (by kernel_rfl) (fun _ _ _ h => h) (Or.inl ⟨by rfl, ?hy⟩) (by assumption) ?_
                case hy => intro w hSw; (try dsimp only at hSw); go_simp; try with_reducible rfl
                try simp only [Act.put, List.getElem_toArray, List.getElem_cons_succ, List.getElem_cons_zero, List.setIfInBounds_toArray, List.set_cons_zero, List.set_cons_succ]
                refine wpAnyH_ready (rs := [14]) (by kernel_rfl) (by simp) (AllReadyH.cons rfl (fun K hK => ?_) AllReadyH.nil)
                obtain ⟨⟨z0, z1, z2, z3, z4, z5⟩, zf⟩ := ct_cells (c := .zero) HCws19x11.out
                dsimp only [CntS.zero] at z0 z1 z2 z3 z4 z5
                go_simp
                have HF19 := Lib.hid (fin_set HBws19x11.out HG19.out HCws19x11.out xp xb xd xe xr xm)
                refine hK.out _ _ ?_ (fun hHeld => ?_)
                · exact HKA.out _ HF19.out.2.2
                clear hK K
                try simp only [Act.put, List.getElem_toArray, List.getElem_cons_succ, List.getElem_cons_zero, List.setIfInBounds_toArray, List.set_cons_zero, List.set_cons_succ]
                refine wpAnyH_take (i := 15) (v := ?_) rfl (by kernel_rfl) (by kernel_rfl) (by kernel_rfl) (fun _ _ _ h => h) (Or.inl ⟨by rfl, ?hy⟩) (by assumption) ?_
                case hy => intro w hSw; (try dsimp only at hSw); go_simp; try with_reducible rfl
                try simp only [Act.put, List.getElem_toArray, List.getElem_cons_succ, List.getElem_cons_zero, List.setIfInBounds_toArray, List.set_cons_zero, List.set_cons_succ]
                refine wpAnyH_take (i := 16) (v := ?_) rfl (by kernel_rfl) (by kernel_rfl) (by kernel_rfl) (fun _ _ _ h => h) (Or.inl ⟨by rfl, ?hy⟩) (by assumption) ?_
                case hy => intro w hSw; (try dsimp only at hSw); go_simp; try with_reducible rfl
                try simp only [Act.put, List.getElem_toArray, List.getElem_cons_succ, List.getElem_cons_zero, List.setIfInBounds_toArray, List.set_cons_zero, List.set_cons_succ]
                refine wpAnyH_done (by kernel_rfl) ?_ _
                refine NoPanic.normal ?_
                try (go_wp2_with fail)
                go_meet
                exact ⟨_, rfl, rfl, rfl, HF19⟩
            · go_simp
              try (go_wp2_with fail)
              obtain ⟨wa19x13, hwa19x13⟩ : ∃ x, wd19.alloc (.cells #[.int .u8 kind, .string qctx, .string qres, .string qorg] 30) = x := ⟨_, rfl⟩
              have HAwa19x13 := Lib.hid (show Below wd19.heap.size wd19 wa19x13 from by rw [← hwa19x13]; exact (Below.refl _ _).alloc (Nat.le_refl _) _)
              have HNwa19x13 := Lib.hid (show wa19x13.heap[wd19.heap.size]? = some (.cells #[.int .u8 kind, .string qctx, .string qres, .string qorg] 30) from by rw [← hwa19x13]; exact new_blockS wd19 _)
              have HBwa19x13 := Lib.hid (HBwd19.out.trans (HAwa19x13.out.mono HBwd19.out.size))
              have HKwa19x13 := HNwa19x13
              rw [hwa19x13]
              clear hwa19x13
              refine hK.out _ _ ?_ (fun hHeld => ?_)
              · exact HKA.out _ HBwa19x13.out
              clear hK K
              try simp only [Act.put, List.getElem_toArray, List.getElem_cons_succ, List.getElem_cons_zero, List.setIfInBounds_toArray, List.set_cons_zero, List.set_cons_succ]
              refine wpAnyH_ready (rs := [2, 13]) (by kernel_rfl) (by simp) (AllReadyH.cons rfl (fun K hK => ?_) (AllReadyH.cons rfl (fun K hK => ?_) AllReadyH.nil))
              · go_simp
                go_at_call 11
                refine (HL19.out wa19x13 HBwa19x13.out).mono ?_
                rintro e wl14 ⟨rfl, hq⟩
                rw [hq]
                clear hq
                try (go_wp2_with fail)
                refine hK.out _ _ ?_ (fun hHeld => ?_)
                · exact HKA.out _ HBwa19x13.out
                clear hK K
                try simp only [Act.put, List.getElem_toArray, List.getElem_cons_succ, List.getElem_cons_zero, List.setIfInBounds_toArray, List.set_cons_zero, List.set_cons_succ]
                refine wpAnyH_ready (rs := [8, 13]) (by kernel_rfl) (by simp) (AllReadyH.cons rfl (fun K hK => ?_) (AllReadyH.cons rfl (fun K hK => ?_) AllReadyH.nil))
                · go_simp
                  go_at_call 10
                  refine (HS19.out wa19x13 _ HBwa19x13.out HKwa19x13.out).mono ?_
                  rintro e ws19x15 ⟨rfl, hby⟩
                  have HBws19x15 := Lib.hid (HBwa19x13.out.trans (hby.mono HBwa19x13.out.size))
                  have HKws19x15 := Lib.hid (hby.block _ (Array.getElem?_eq_some_iff.1 HKwa19x13.out).1 |>.trans HKwa19x13.out)
                  clear hby
                  try (go_wp2_with fail)
                  refine hK.out _ _ ?_ (fun hHeld => ?_)
                  · exact HKA.out _ HBws19x15.out
                  clear hK K
                  try simp only [Act.put, List.getElem_toArray, List.getElem_cons_succ, List.getElem_cons_zero, List.setIfInBounds_toArray, List.set_cons_zero, List.set_cons_succ]
                  refine wpAnyH_take (i := 9) (v := ?_) rfl (by kernel_rfl) (by kernel_rfl) (by kernel_rfl) (fun _ _ _ h => h) (Or.inl ⟨by rfl, ?hy⟩) (by assumption) ?_
                  case hy => intro w hSw; (try dsimp only at hSw); go_simp; try with_reducible rfl
                  try simp only [Act.put, List.getElem_toArray, List.getElem_cons_succ, List.getElem_cons_zero, List.setIfInBounds_toArray, List.set_cons_zero, List.set_cons_succ]
                  refine wpAnyH_take (i := 10) (v := ?_) rfl (by kernel_rfl) (by kernel_rfl) (by kernel_rfl) (fun _ _ _ h => h) (Or.inl ⟨by rfl, ?hy⟩) (by assumption) ?_
                  case hy => intro w hSw; (try dsimp only at hSw); go_simp; try with_reducible rfl
                  try simp only [Act.put, List.getElem_toArray, List.getElem_cons_succ, List.getElem_cons_zero, List.setIfInBounds_toArray, List.set_cons_zero, List.set_cons_succ]
                  refine wpAnyH_take (i := 11) (v := ?_) rfl (by kernel_rfl) (by kernel_rfl) (by kernel_rfl) (fun _ _ _ h => h) (Or.inl ⟨by rfl, ?hy⟩) (by assumption) ?_
                  case hy => intro w hSw; (try dsimp only at hSw); go_simp; try with_reducible rfl
                  try simp only [Act.put, List.getElem_toArray, List.getElem_cons_succ, List.getElem_cons_zero, List.setIfInBounds_toArray, List.set_cons_zero, List.set_cons_succ]
                  refine wpAnyH_take (i := 12) (v := ?_) rfl (by kernel_rfl) (by kernel_rfl) (by kernel_rfl) (fun _ _ _ h => h) (Or.inl ⟨by rfl, ?hy⟩) (by assumption) ?_
                  case hy => intro w hSw; (try dsimp only at hSw); go_simp; try with_reducible rfl
                  try simp only [Act.put, List.getElem_toArray, List.getElem_cons_succ, List.getElem_cons_zero, List.setIfInBounds_toArray, List.set_cons_zero, List.set_cons_succ]
                  refine wpAnyH_ready (rs := [13]) (by kernel_rfl) (by simp) (AllReadyH.cons rfl (fun K hK => ?_) AllReadyH.nil)
                  go_simp
                  try (go_wp2_with fail)
                  obtain ⟨wa19x16, hwa19x16⟩ : ∃ x, ws19x15.alloc (.cells #[.int .i64 0, .int .i64 0, .int .i64 0, .int .i64 0, .int .i64 0, .int .i64 0] 32) = x := ⟨_, rfl⟩
                  have HAwa19x16 := Lib.hid (show Below ws19x15.heap.size ws19x15 wa19x16 from by rw [← hwa19x16]; exact (Below.refl _ _).alloc (Nat.le_refl _) _)
                  have HNwa19x16 := Lib.hid (show wa19x16.heap[ws19x15.heap.size]? = some (.cells #[.int .i64 0, .int .i64 0, .int .i64 0, .int .i64 0, .int .i64 0, .int .i64 0] 32) from by rw [← hwa19x16]; exact new_blockS ws19x15 _)
                  have HBwa19x16 := Lib.hid (HBws19x15.out.trans (HAwa19x16.out.mono HBws19x15.out.size))
                  have HKwa19x16 := Lib.hid (HAwa19x16.out.block _ (Array.getElem?_eq_some_iff.1 HKws19x15.out).1 |>.trans HKws19x15.out)
                  have HCwa19x16 := HNwa19x16
                  have HG19 := Lib.hid (show wy.heap.size ≤ ws19x15.heap.size from HBws19x15.out.size)
                  rw [hwa19x16]
                  clear hwa19x16
                  refine hK.out _ _ ?_ (fun hHeld => ?_)
                  · exact HKA.out _ HBwa19x16.out
                  clear hK K
                  try simp only [Act.put, List.getElem_toArray, List.getElem_cons_succ, List.getElem_cons_zero, List.setIfInBounds_toArray, List.set_cons_zero, List.set_cons_succ]
                  refine wpAnyH_ready (rs := [14]) (by kernel_rfl) (by simp) (AllReadyH.cons rfl (fun K hK => ?_) AllReadyH.nil)
                  obtain ⟨⟨z0, z1, z2, z3, z4, z5⟩, zf⟩ := ct_cells (c := .zero) HCwa19x16.out
                  dsimp only [CntS.zero] at z0 z1 z2 z3 z4 z5
                  go_simp
                  have HF19 := Lib.hid (fin_set HBwa19x16.out HG19.out HCwa19x16.out xp xb xd xe xr xm)
                  refine hK.out _ _ ?_ (fun hHeld => ?_)
                  · exact HKA.out _ HF19.out.2.2
                  clear hK K
                  try simp only [Act.put, List.getElem_toArray, List.getElem_cons_succ, List.getElem_cons_zero, List.setIfInBounds_toArray, List.set_cons_zero, List.set_cons_succ]
                  refine wpAnyH_take (i := 15) (v := ?_) rfl (by kernel_rfl) (by kernel_rfl) (by kernel_rfl) (fun _ _ _ h => h) (Or.inl ⟨by rfl, ?hy⟩) (by assumption) ?_
                  case hy => intro w hSw; (try dsimp only at hSw); go_simp; try with_reducible rfl
                  try simp only [Act.put, List.getElem_toArray, List.getElem_cons_succ, List.getElem_cons_zero, List.setIfInBounds_toArray, List.set_cons_zero, List.set_cons_succ]
                  refine wpAnyH_take (i := 16) (v := ?_) rfl (by kernel_rfl) (by kernel_rfl) (by kernel_rfl) (fun _ _ _ h => h) (Or.inl ⟨by rfl, ?hy⟩) (by assumption) ?_
                  case hy => intro w hSw; (try dsimp only at hSw); go_simp; try with_reducible rfl
                  try simp only [Act.put, List.getElem_toArray, List.getElem_cons_succ, List.getElem_cons_zero, List.setIfInBounds_toArray, List.set_cons_zero, List.set_cons_succ]
                  refine wpAnyH_done (by kernel_rfl) ?_ _
                  refine NoPanic.normal ?_
                  try (go_wp2_with fail)
                  go_meet
                  exact ⟨_, rfl, rfl, rfl, HF19⟩
                · go_simp
                  try (go_wp2_with fail)
                  obtain ⟨wa19x18, hwa19x18⟩ : ∃ x, wa19x13.alloc (.cells #[.int .i64 0, .int .i64 0, .int .i64 0, .int .i64 0, .int .i64 0, .int .i64 0] 32) = x := ⟨_, rfl⟩
                  have HAwa19x18 := Lib.hid (show Below wa19x13.heap.size wa19x13 wa19x18 from by rw [← hwa19x18]; exact (Below.refl _ _).alloc (Nat.le_refl _) _)
                  have HNwa19x18 := Lib.hid (show wa19x18.heap[wa19x13.heap.size]? = some (.cells #[.int .i64 0, .int .i64 0, .int .i64 0, .int .i64 0, .int .i64 0, .int .i64 0] 32) from by rw [← hwa19x18]; exact new_blockS wa19x13 _)
                  have HBwa19x18 := Lib.hid (HBwa19x13.out.trans (HAwa19x18.out.mono HBwa19x13.out.size))
                  have HKwa19x18 := Lib.hid (HAwa19x18.out.block _ (Array.getElem?_eq_some_iff.1 HKwa19x13.out).1 |>.trans HKwa19x13.out)
                  have HCwa19x18 := HNwa19x18
                  have HG19 := Lib.hid (show wy.heap.size ≤ wa19x13.heap.size from HBwa19x13.out.size)
                  rw [hwa19x18]
                  clear hwa19x18
                  refine hK.out _ _ ?_ (fun hHeld => ?_)
                  · exact HKA.out _ HBwa19x18.out
                  clear hK K
                  try simp only [Act.put, List.getElem_toArray, List.getElem_cons_succ, List.getElem_cons_zero, List.setIfInBounds_toArray, List.set_cons_zero, List.set_cons_succ]
                  refine wpAnyH_ready (rs := [8]) (by kernel_rfl) (by simp) (AllReadyH.cons rfl (fun K hK => ?_) AllReadyH.nil)
                  go_simp
                  go_at_call 10
                  refine (HS19.out wa19x18 _ HBwa19x18.out HKwa19x18.out).mono ?_
                  rintro e ws19x19 ⟨rfl, hby⟩
                  have HBws19x19 := Lib.hid (HBwa19x18.out.trans (hby.mono HBwa19x18.out.size))
                  have HKws19x19 := Lib.hid (hby.block _ (Array.getElem?_eq_some_iff.1 HKwa19x18.out).1 |>.trans HKwa19x18.out)
                  have HCws19x19 := Lib.hid (hby.block _ (Array.getElem?_eq_some_iff.1 HCwa19x18.out).1 |>.trans HCwa19x18.out)
                  clear hby
                  try (go_wp2_with fail)
                  refine hK.out _ _ ?_ (fun hHeld => ?_)
                  · exact HKA.out _ HBws19x19.out
                  clear hK K
                  try simp only [Act.put, List.getElem_toArray, List.getElem_cons_succ, List.getElem_cons_zero, List.setIfInBounds_toArray, List.set_cons_zero, List.set_cons_succ]
                  refine wpAnyH_take (i := 9) (v := ?_) rfl (by kernel_rfl) (by kernel_rfl) (by kernel_rfl) (fun _ _ _ h => h) (Or.inl ⟨by rfl, ?hy⟩) (by assumption) ?_
                  case hy => intro w hSw; (try dsimp only at hSw); go_simp; try with_reducible rfl
                  try simp only [Act.put, List.getElem_toArray, List.getElem_cons_succ, List.getElem_cons_zero, List.setIfInBounds_toArray, List.set_cons_zero, List.set_cons_succ]
                  refine wpAnyH_take (i := 10) (v := ?_) rfl (by kernel_rfl) (by kernel_rfl) (by kernel_rfl) (fun _ _ _ h => h) (Or.inl ⟨by rfl, ?hy⟩) (by assumption) ?_
                  case hy => intro w hSw; (try dsimp only at hSw); go_simp; try with_reducible rfl
                  try simp only [Act.put, List.getElem_toArray, List.getElem_cons_succ, List.getElem_cons_zero, List.setIfInBounds_toArray, List.set_cons_zero, List.set_cons_succ]
                  refine wpAnyH_take (i := 11) (v := ?_) rfl (by kernel_rfl) (by kernel_rfl) (by kernel_rfl) (fun _ _ _ h => h) (Or.inl ⟨by rfl, ?hy⟩) (by assumption) ?_
                  case hy => intro w hSw; (try dsimp only at hSw); go_simp; try with_reducible rfl
                  try simp only [Act.put, List.getElem_toArray, List.getElem_cons_succ, List.getElem_cons_zero, List.setIfInBounds_toArray, List.set_cons_zero, List.set_cons_succ]
                  refine wpAnyH_take (i := 12) (v := ?_) rfl (by kernel_rfl) (by kernel_rfl) (by kernel_rfl) (fun _ _ _ h => h) (Or.inl ⟨by rfl, ?hy⟩) (by assumption) ?_
                  case hy => intro w hSw; (try dsimp only at hSw); go_simp; try with_reducible rfl
                  try simp only [Act.put, List.getElem_toArray, List.getElem_cons_succ, List.getElem_cons_zero, List.setIfInBounds_toArray, List.set_cons_zero, List.set_cons_succ]
                  refine wpAnyH_ready (rs := [14]) (by kernel_rfl) (by simp) (AllReadyH.cons rfl (fun K hK => ?_) AllReadyH.nil)
                  obtain ⟨⟨z0, z1, z2, z3, z4, z5⟩, zf⟩ := ct_cells (c := .zero) HCws19x19.out
                  dsimp only [CntS.zero] at z0 z1 z2 z3 z4 z5
                  go_simp
                  have HF19 := Lib.hid (fin_set HBws19x19.out HG19.out HCws19x19.out xp xb xd xe xr xm)
                  refine hK.out _ _ ?_ (fun hHeld => ?_)
                  · exact HKA.out _ HF19.out.2.2
                  clear hK K
                  try simp only [Act.put, List.getElem_toArray, List.getElem_cons_succ, List.getElem_cons_zero, List.setIfInBounds_toArray, List.set_cons_zero, List.set_cons_succ]
                  refine wpAnyH_take (i := 15) (v := ?_) rfl (by kernel_rfl) (by kernel_rfl) (by kernel_rfl) (fun _ _ _ h => h) (Or.inl ⟨by rfl, ?hy⟩) (by assumption) ?_
                  case hy => intro w hSw; (try dsimp only at hSw); go_simp; try with_reducible rfl
                  try simp only [Act.put, List.getElem_toArray, List.getElem_cons_succ, List.getElem_cons_zero, List.setIfInBounds_toArray, List.set_cons_zero, List.set_cons_succ]
                  refine wpAnyH_take (i := 16) (v := ?_) rfl (by kernel_rfl) (by kernel_rfl) (by kernel_rfl) (fun _ _ _ h => h) (Or.inl ⟨by rfl, ?hy⟩) (by assumption) ?_
                  case hy => intro w hSw; (try dsimp only at hSw); go_simp; try with_reducible rfl
                  try simp only [Act.put, List.getElem_toArray, List.getElem_cons_succ, List.getElem_cons_zero, List.setIfInBounds_toArray, List.set_cons_zero, List.set_cons_succ]
                  refine wpAnyH_done (by kernel_rfl) ?_ _
                  refine NoPanic.normal ?_
                  try (go_wp2_with fail)
                  go_meet
                  exact ⟨_, rfl, rfl, rfl, HF19⟩
              · go_simp
                try (go_wp2_with fail)
                obtain ⟨wa19x21, hwa19x21⟩ : ∃ x, wa19x13.alloc (.cells #[.int .i64 0, .int .i64 0, .int .i64 0, .int .i64 0, .int .i64 0, .int .i64 0] 32) = x := ⟨_, rfl⟩
                have HAwa19x21 := Lib.hid (show Below wa19x13.heap.size wa19x13 wa19x21 from by rw [← hwa19x21]; exact (Below.refl _ _).alloc (Nat.le_refl _) _)
                have HNwa19x21 := Lib.hid (show wa19x21.heap[wa19x13.heap.size]? = some (.cells #[.int .i64 0, .int .i64 0, .int .i64 0, .int .i64 0, .int .i64 0, .int .i64 0] 32) from by rw [← hwa19x21]; exact new_blockS wa19x13 _)
                have HBwa19x21 := Lib.hid (HBwa19x13.out.trans (HAwa19x21.out.mono HBwa19x13.out.size))
                have HKwa19x21 := Lib.hid (HAwa19x21.out.block _ (Array.getElem?_eq_some_iff.1 HKwa19x13.out).1 |>.trans HKwa19x13.out)
                have HCwa19x21 := HNwa19x21
                have HG19 := Lib.hid (show wy.heap.size ≤ wa19x13.heap.size from HBwa19x13.out.size)
                rw [hwa19x21]
                clear hwa19x21
                refine hK.out _ _ ?_ (fun hHeld => ?_)
                · exact HKA.out _ HBwa19x21.out
                clear hK K
                try simp only [Act.put, List.getElem_toArray, List.getElem_cons_succ, List.getElem_cons_zero, List.setIfInBounds_toArray, List.set_cons_zero, List.set_cons_succ]
                refine wpAnyH_ready (rs := [2]) (by kernel_rfl) (by simp) (AllReadyH.cons rfl (fun K hK => ?_) AllReadyH.nil)
                go_simp
                go_at_call 11
                refine (HL19.out wa19x21 HBwa19x21.out).mono ?_
                rintro e wl22 ⟨rfl, hq⟩
                rw [hq]
                clear hq
                try (go_wp2_with fail)
                refine hK.out _ _ ?_ (fun hHeld => ?_)
                · exact HKA.out _ HBwa19x21.out
                clear hK K
                try simp only [Act.put, List.getElem_toArray, List.getElem_cons_succ, List.getElem_cons_zero, List.setIfInBounds_toArray, List.set_cons_zero, List.set_cons_succ]
                refine wpAnyH_ready (rs := [8]) (by kernel_rfl) (by simp) (AllReadyH.cons rfl (fun K hK => ?_) AllReadyH.nil)
                go_simp
                go_at_call 10
                refine (HS19.out wa19x21 _ HBwa19x21.out HKwa19x21.out).mono ?_
                rintro e ws19x23 ⟨rfl, hby⟩
                have HBws19x23 := Lib.hid (HBwa19x21.out.trans (hby.mono HBwa19x21.out.size))
                have HKws19x23 := Lib.hid (hby.block _ (Array.getElem?_eq_some_iff.1 HKwa19x21.out).1 |>.trans HKwa19x21.out)
                have HCws19x23 := Lib.hid (hby.block _ (Array.getElem?_eq_some_iff.1 HCwa19x21.out).1 |>.trans HCwa19x21.out)
                clear hby
                try (go_wp2_with fail)
                refine hK.out _ _ ?_ (fun hHeld => ?_)
                · exact HKA.out _ HBws19x23.out
                clear hK K
                try simp only [Act.put, List.getElem_toArray, List.getElem_cons_succ, List.getElem_cons_zero, List.setIfInBounds_toArray, List.set_cons_zero, List.set_cons_succ]
                refine wpAnyH_take (i := 9) (v := ?_) rfl (by kernel_rfl) (by kernel_rfl) (by kernel_rfl) (fun _ _ _ h => h) (Or.inl ⟨by rfl, ?hy⟩) (by assumption) ?_
                case hy => intro w hSw; (try dsimp only at hSw); go_simp; try with_reducible rfl
                try simp only [Act.put, List.getElem_toArray, List.getElem_cons_succ, List.getElem_cons_zero, List.setIfInBounds_toArray, List.set_cons_zero, List.set_cons_succ]
                refine wpAnyH_take (i := 10) (v := ?_) rfl (by kernel_rfl) (by kernel_rfl) (by kernel_rfl) (fun _ _ _ h => h) (Or.inl ⟨by rfl, ?hy⟩) (by assumption) ?_
                case hy => intro w hSw; (try dsimp only at hSw); go_simp; try with_reducible rfl
                try simp only [Act.put, List.getElem_toArray, List.getElem_cons_succ, List.getElem_cons_zero, List.setIfInBounds_toArray, List.set_cons_zero, List.set_cons_succ]
                refine wpAnyH_take (i := 11) (v := ?_) rfl (by kernel_rfl) (by kernel_rfl) (by kernel_rfl) (fun _ _ _ h => h) (Or.inl ⟨by rfl, ?hy⟩) (by assumption) ?_
                case hy => intro w hSw; (try dsimp only at hSw); go_simp; try with_reducible rfl
                try simp only [Act.put, List.getElem_toArray, List.getElem_cons_succ, List.getElem_cons_zero, List.setIfInBounds_toArray, List.set_cons_zero, List.set_cons_succ]
                refine wpAnyH_take (i := 12) (v := ?_) rfl (by kernel_rfl) (by kernel_rfl) (by kernel_rfl) (fun _ _ _ h => h) (Or.inl ⟨by rfl, ?hy⟩) (by assumption) ?_
                case hy => intro w hSw; (try dsimp only at hSw); go_simp; try with_reducible rfl
                try simp only [Act.put, List.getElem_toArray, List.getElem_cons_succ, List.getElem_cons_zero, List.setIfInBounds_toArray, List.set_cons_zero, List.set_cons_succ]
                refine wpAnyH_ready (rs := [14]) (by kernel_rfl) (by simp) (AllReadyH.cons rfl (fun K hK => ?_) AllReadyH.nil)
                obtain ⟨⟨z0, z1, z2, z3, z4, z5⟩, zf⟩ := ct_cells (c := .zero) HCws19x23.out
                dsimp only [CntS.zero] at z0 z1 z2 z3 z4 z5
                go_simp
                have HF19 := Lib.hid (fin_set HBws19x23.out HG19.out HCws19x23.out xp xb xd xe xr xm)
                refine hK.out _ _ ?_ (fun hHeld => ?_)
                · exact HKA.out _ HF19.out.2.2
                clear hK K
                try simp only [Act.put, List.getElem_toArray, List.getElem_cons_succ, List.getElem_cons_zero, List.setIfInBounds_toArray, List.set_cons_zero, List.set_cons_succ]
                refine wpAnyH_take (i := 15) (v := ?_) rfl (by kernel_rfl) (by kernel_rfl) (by kernel_rfl) (fun _ _ _ h => h) (Or.inl ⟨by rfl, ?hy⟩) (by assumption) ?_
                case hy => intro w hSw; (try dsimp only at hSw); go_simp; try with_reducible rfl
                try simp only [Act.put, List.getElem_toArray, List.getElem_cons_succ, List.getElem_cons_zero, List.setIfInBounds_toArray, List.set_cons_zero, List.set_cons_succ]
                refine wpAnyH_take (i := 16) (v := ?_) rfl (by kernel_rfl) (by kernel_rfl) (by kernel_rfl) (fun _ _ _ h => h) (Or.inl ⟨by rfl, ?hy⟩) (by assumption) ?_
                case hy => intro w hSw; (try dsimp only at hSw); go_simp; try with_reducible rfl
                try simp only [Act.put, List.getElem_toArray, List.getElem_cons_succ, List.getElem_cons_zero, List.setIfInBounds_toArray, List.set_cons_zero, List.set_cons_succ]
                refine wpAnyH_done (by kernel_rfl) ?_ _
                refine NoPanic.normal ?_
                try (go_wp2_with fail)
                go_meet
                exact ⟨_, rfl, rfl, rfl, HF19⟩
            · go_simp
              try (go_wp2_with fail)
              obtain ⟨wa19x25, hwa19x25⟩ : ∃ x, wd19.alloc (.cells #[.int .i64 0, .int .i64 0, .int .i64 0, .int .i64 0, .int .i64 0, .int .i64 0] 32) = x := ⟨_, rfl⟩
              have HAwa19x25 := Lib.hid (show Below wd19.heap.size wd19 wa19x25 from by rw [← hwa19x25]; exact (Below.refl _ _).alloc (Nat.le_refl _) _)
              have HNwa19x25 := Lib.hid (show wa19x25.heap[wd19.heap.size]? = some (.cells #[.int .i64 0, .int .i64 0, .int .i64 0, .int .i64 0, .int .i64 0, .int .i64 0] 32) from by rw [← hwa19x25]; exact new_blockS wd19 _)
              have HBwa19x25 := Lib.hid (HBwd19.out.trans (HAwa19x25.out.mono HBwd19.out.size))
              have HCwa19x25 := HNwa19x25
              have HG19 := Lib.hid (show wy.heap.size ≤ wd19.heap.size from HBwd19.out.size)
              rw [hwa19x25]
              clear hwa19x25
              refine hK.out _ _ ?_ (fun hHeld => ?_)
              · exact HKA.out _ HBwa19x25.out
              clear hK K
              try simp only [Act.put, List.getElem_toArray, List.getElem_cons_succ, List.getElem_cons_zero, List.setIfInBounds_toArray, List.set_cons_zero, List.set_cons_succ]
              refine wpAnyH_ready (rs := [2, 7]) (by kernel_rfl) (by simp) (AllReadyH.cons rfl (fun K hK => ?_) (AllReadyH.cons rfl (fun K hK => ?_) AllReadyH.nil))
              · go_simp
                go_at_call 11
                refine (HL19.out wa19x25 HBwa19x25.out).mono ?_
                rintro e wl26 ⟨rfl, hq⟩
                rw [hq]
                clear hq
                try (go_wp2_with fail)
                refine hK.out _ _ ?_ (fun hHeld => ?_)
                · exact HKA.out _ HBwa19x25.out
                clear hK K
                try simp only [Act.put, List.getElem_toArray, List.getElem_cons_succ, List.getElem_cons_zero, List.setIfInBounds_toArray, List.set_cons_zero, List.set_cons_succ]
                refine wpAnyH_ready (rs := [7]) (by kernel_rfl) (by simp) (AllReadyH.cons rfl (fun K hK => ?_) AllReadyH.nil)
                go_simp
                try (go_wp2_with fail)
                obtain ⟨wa19x27, hwa19x27⟩ : ∃ x, wa19x25.alloc (.cells #[.int .u8 kind, .string qctx, .string qres, .string qorg] 30) = x := ⟨_, rfl⟩
                have HAwa19x27 := Lib.hid (show Below wa19x25.heap.size wa19x25 wa19x27 from by rw [← hwa19x27]; exact (Below.refl _ _).alloc (Nat.le_refl _) _)
                have HNwa19x27 := Lib.hid (show wa19x27.heap[wa19x25.heap.size]? = some (.cells #[.int .u8 kind, .string qctx, .string qres, .string qorg] 30) from by rw [← hwa19x27]; exact new_blockS wa19x25 _)
                have HBwa19x27 := Lib.hid (HBwa19x25.out.trans (HAwa19x27.out.mono HBwa19x25.out.size))
                have HCwa19x27 := Lib.hid (HAwa19x27.out.block _ (Array.getElem?_eq_some_iff.1 HCwa19x25.out).1 |>.trans HCwa19x25.out)
                have HKwa19x27 := HNwa19x27
                rw [hwa19x27]
                clear hwa19x27
                refine hK.out _ _ ?_ (fun hHeld => ?_)
                · exact HKA.out _ HBwa19x27.out
                clear hK K
                try simp only [Act.put, List.getElem_toArray, List.getElem_cons_succ, List.getElem_cons_zero, List.setIfInBounds_toArray, List.set_cons_zero, List.set_cons_succ]
                refine wpAnyH_ready (rs := [8]) (by kernel_rfl) (by simp) (AllReadyH.cons rfl (fun K hK => ?_) AllReadyH.nil)
                go_simp
                go_at_call 10
                refine (HS19.out wa19x27 _ HBwa19x27.out HKwa19x27.out).mono ?_
                rintro e ws19x28 ⟨rfl, hby⟩
                have HBws19x28 := Lib.hid (HBwa19x27.out.trans (hby.mono HBwa19x27.out.size))
                have HKws19x28 := Lib.hid (hby.block _ (Array.getElem?_eq_some_iff.1 HKwa19x27.out).1 |>.trans HKwa19x27.out)
                have HCws19x28 := Lib.hid (hby.block _ (Array.getElem?_eq_some_iff.1 HCwa19x27.out).1 |>.trans HCwa19x27.out)
                clear hby
                try (go_wp2_with fail)
                refine hK.out _ _ ?_ (fun hHeld => ?_)
                · exact HKA.out _ HBws19x28.out
                clear hK K
                try simp only [Act.put, List.getElem_toArray, List.getElem_cons_succ, List.getElem_cons_zero, List.setIfInBounds_toArray, List.set_cons_zero, List.set_cons_succ]
                refine wpAnyH_take (i := 9) (v := ?_) rfl (by kernel_rfl) (by kernel_rfl) (by kernel_rfl) (fun _ _ _ h => h) (Or.inl ⟨by rfl, ?hy⟩) (by assumption) ?_
                case hy => intro w hSw; (try dsimp only at hSw); go_simp; try with_reducible rfl
                try simp only [Act.put, List.getElem_toArray, List.getElem_cons_succ, List.getElem_cons_zero, List.setIfInBounds_toArray, List.set_cons_zero, List.set_cons_succ]
                refine wpAnyH_take (i := 10) (v := ?_) rfl (by kernel_rfl) (by kernel_rfl) (by kernel_rfl) (fun _ _ _ h => h) (Or.inl ⟨by rfl, ?hy⟩) (by assumption) ?_
                case hy => intro w hSw; (try dsimp only at hSw); go_simp; try with_reducible rfl
                try simp only [Act.put, List.getElem_toArray, List.getElem_cons_succ, List.getElem_cons_zero, List.setIfInBounds_toArray, List.set_cons_zero, List.set_cons_succ]
                refine wpAnyH_take (i := 11) (v := ?_) rfl (by kernel_rfl) (by kernel_rfl) (by kernel_rfl) (fun _ _ _ h => h) (Or.inl ⟨by rfl, ?hy⟩) (by assumption) ?_
                case hy => intro w hSw; (try dsimp only at hSw); go_simp; try with_reducible rfl
                try simp only [Act.put, List.getElem_toArray, List.getElem_cons_succ, List.getElem_cons_zero, List.setIfInBounds_toArray, List.set_cons_zero, List.set_cons_succ]
                refine wpAnyH_take (i := 12) (v := ?_) rfl (by kernel_rfl) (by kernel_rfl) (by kernel_rfl) (fun _ _ _ h => h) (Or.inl ⟨by rfl, ?hy⟩) (by assumption) ?_
                case hy => intro w hSw; (try dsimp only at hSw); go_simp; try with_reducible rfl
                try simp only [Act.put, List.getElem_toArray, List.getElem_cons_succ, List.getElem_cons_zero, List.setIfInBounds_toArray, List.set_cons_zero, List.set_cons_succ]
                refine wpAnyH_ready (rs := [14]) (by kernel_rfl) (by simp) (AllReadyH.cons rfl (fun K hK => ?_) AllReadyH.nil)
                obtain ⟨⟨z0, z1, z2, z3, z4, z5⟩, zf⟩ := ct_cells (c := .zero) HCws19x28.out
                dsimp only [CntS.zero] at z0 z1 z2 z3 z4 z5
                go_simp
                have HF19 := Lib.hid (fin_set HBws19x28.out HG19.out HCws19x28.out xp xb xd xe xr xm)
                refine hK.out _ _ ?_ (fun hHeld => ?_)
                · exact HKA.out _ HF19.out.2.2
                clear hK K
                try simp only [Act.put, List.getElem_toArray, List.getElem_cons_succ, List.getElem_cons_zero, List.setIfInBounds_toArray, List.set_cons_zero, List.set_cons_succ]
                refine wpAnyH_take (i := 15) (v := ?_) rfl (by kernel_rfl) (by kernel_rfl) (by kernel_rfl) (fun _ _ _ h => h) (Or.inl ⟨by rfl, ?hy⟩) (by assumption) ?_
                case hy => intro w hSw; (try dsimp only at hSw); go_simp; try with_reducible rfl
                try simp only [Act.put, List.getElem_toArray, List.getElem_cons_succ, List.getElem_cons_zero, List.setIfInBounds_toArray, List.set_cons_zero, List.set_cons_succ]
                refine wpAnyH_take (i := 16) (v := ?_) rfl (by kernel_rfl) (by kernel_rfl) (by kernel_rfl) (fun _ _ _ h => h) (Or.inl ⟨by rfl, ?hy⟩) (by assumption) ?_
                case hy => intro w hSw; (try dsimp only at hSw); go_simp; try with_reducible rfl
                try simp only [Act.put, List.getElem_toArray, List.getElem_cons_succ, List.getElem_cons_zero, List.setIfInBounds_toArray, List.set_cons_zero, List.set_cons_succ]
                refine wpAnyH_done (by kernel_rfl) ?_ _
                refine NoPanic.normal ?_
                try (go_wp2_with fail)
                go_meet
                exact ⟨_, rfl, rfl, rfl, HF19⟩
              · go_simp
                try (go_wp2_with fail)
                obtain ⟨wa19x30, hwa19x30⟩ : ∃ x, wa19x25.alloc (.cells #[.int .u8 kind, .string qctx, .string qres, .string qorg] 30) = x := ⟨_, rfl⟩
                have HAwa19x30 := Lib.hid (show Below wa19x25.heap.size wa19x25 wa19x30 from by rw [← hwa19x30]; exact (Below.refl _ _).alloc (Nat.le_refl _) _)
                have HNwa19x30 := Lib.hid (show wa19x30.heap[wa19x25.heap.size]? = some (.cells #[.int .u8 kind, .string qctx, .string qres, .string qorg] 30) from by rw [← hwa19x30]; exact new_blockS wa19x25 _)
                have HBwa19x30 := Lib.hid (HBwa19x25.out.trans (HAwa19x30.out.mono HBwa19x25.out.size))
                have HCwa19x30 := Lib.hid (HAwa19x30.out.block _ (Array.getElem?_eq_some_iff.1 HCwa19x25.out).1 |>.trans HCwa19x25.out)
                have HKwa19x30 := HNwa19x30
                rw [hwa19x30]
                clear hwa19x30
                refine hK.out _ _ ?_ (fun hHeld => ?_)
                · exact HKA.out _ HBwa19x30.out
                clear hK K
                try simp only [Act.put, List.getElem_toArray, List.getElem_cons_succ, List.getElem_cons_zero, List.setIfInBounds_toArray, List.set_cons_zero, List.set_cons_succ]
                refine wpAnyH_ready (rs := [2]) (by kernel_rfl) (by simp) (AllReadyH.cons rfl (fun K hK => ?_) AllReadyH.nil)
                go_simp
                go_at_call 11
                refine (HL19.out wa19x30 HBwa19x30.out).mono ?_
                rintro e wl31 ⟨rfl, hq⟩
                rw [hq]
                clear hq
                try (go_wp2_with fail)
                refine hK.out _ _ ?_ (fun hHeld => ?_)
                · exact HKA.out _ HBwa19x30.out
                clear hK K
                try simp only [Act.put, List.getElem_toArray, List.getElem_cons_succ, List.getElem_cons_zero, List.setIfInBounds_toArray, List.set_cons_zero, List.set_cons_succ]
                refine wpAnyH_ready (rs := [8]) (by kernel_rfl) (by simp) (AllReadyH.cons rfl (fun K hK => ?_) AllReadyH.nil)
                go_simp
                go_at_call 10
                refine (HS19.out wa19x30 _ HBwa19x30.out HKwa19x30.out).mono ?_
                rintro e ws19x32 ⟨rfl, hby⟩
                have HBws19x32 := Lib.hid (HBwa19x30.out.trans (hby.mono HBwa19x30.out.size))
                have HKws19x32 := Lib.hid (hby.block _ (Array.getElem?_eq_some_iff.1 HKwa19x30.out).1 |>.trans HKwa19x30.out)
                have HCws19x32 := Lib.hid (hby.block _ (Array.getElem?_eq_some_iff.1 HCwa19x30.out).1 |>.trans HCwa19x30.out)
                clear hby
                try (go_wp2_with fail)
                refine hK.out _ _ ?_ (fun hHeld => ?_)
                · exact HKA.out _ HBws19x32.out
                clear hK K
                try simp only [Act.put, List.getElem_toArray, List.getElem_cons_succ, List.getElem_cons_zero, List.setIfInBounds_toArray, List.set_cons_zero, List.set_cons_succ]
                refine wpAnyH_take (i := 9) (v := ?_) rfl (by kernel_rfl) (by kernel_rfl) (by kernel_rfl) (fun _ _ _ h => h) (Or.inl ⟨by rfl, ?hy⟩) (by assumption) ?_
                case hy => intro w hSw; (try dsimp only at hSw); go_simp; try with_reducible rfl
                try simp only [Act.put, List.getElem_toArray, List.getElem_cons_succ, List.getElem_cons_zero, List.setIfInBounds_toArray, List.set_cons_zero, List.set_cons_succ]
                refine wpAnyH_take (i := 10) (v := ?_) rfl (by kernel_rfl) (by kernel_rfl) (by kernel_rfl) (fun _ _ _ h => h) (Or.inl ⟨by rfl, ?hy⟩) (by assumption) ?_
                case hy => intro w hSw; (try dsimp only at hSw); go_simp; try with_reducible rfl
                try simp only [Act.put, List.getElem_toArray, List.getElem_cons_succ, List.getElem_cons_zero, List.setIfInBounds_toArray, List.set_cons_zero, List.set_cons_succ]
                refine wpAnyH_take (i := 11) (v := ?_) rfl (by kernel_rfl) (by kernel_rfl) (by kernel_rfl) (fun _ _ _ h => h) (Or.inl ⟨by rfl, ?hy⟩) (by assumption) ?_
                case hy => intro w hSw; (try dsimp only at hSw); go_simp; try with_reducible rfl
                try simp only [Act.put, List.getElem_toArray, List.getElem_cons_succ, List.getElem_cons_zero, List.setIfInBounds_toArray, List.set_cons_zero, List.set_cons_succ]
                refine wpAnyH_take (i := 12) (v := ?_) rfl (by kernel_rfl) (by kernel_rfl) (by kernel_rfl) (fun _ _ _ h => h) (Or.inl ⟨by rfl, ?hy⟩) (by assumption) ?_
                case hy => intro w hSw; (try dsimp only at hSw); go_simp; try with_reducible rfl
                try simp only [Act.put, List.getElem_toArray, List.getElem_cons_succ, List.getElem_cons_zero, List.setIfInBounds_toArray, List.set_cons_zero, List.set_cons_succ]
                refine wpAnyH_ready (rs := [14]) (by kernel_rfl) (by simp) (AllReadyH.cons rfl (fun K hK => ?_) AllReadyH.nil)
                obtain ⟨⟨z0, z1, z2, z3, z4, z5⟩, zf⟩ := ct_cells (c := .zero) HCws19x32.out
                dsimp only [CntS.zero] at z0 z1 z2 z3 z4 z5
                go_simp
                have HF19 := Lib.hid (fin_set HBws19x32.out HG19.out HCws19x32.out xp xb xd xe xr xm)
                refine hK.out _ _ ?_ (fun hHeld => ?_)
                · exact HKA.out _ HF19.out.2.2
                clear hK K
                try simp only [Act.put, List.getElem_toArray, List.getElem_cons_succ, List.getElem_cons_zero, List.setIfInBounds_toArray, List.set_cons_zero, List.set_cons_succ]
                refine wpAnyH_take (i := 15) (v := ?_) rfl (by kernel_rfl) (by kernel_rfl) (by kernel_rfl) (fun _ _ _ h => h) (Or.inl ⟨by rfl, ?hy⟩) (by assumption) ?_
                case hy => intro w hSw; (try dsimp only at hSw); go_simp; try with_reducible rfl
                try simp only [Act.put, List.getElem_toArray, List.getElem_cons_succ, List.getElem_cons_zero, List.setIfInBounds_toArray, List.set_cons_zero, List.set_cons_succ]
                refine wpAnyH_take (i := 16) (v := ?_) rfl (by kernel_rfl) (by kernel_rfl) (by kernel_rfl) (fun _ _ _ h => h) (Or.inl ⟨by rfl, ?hy⟩) (by assumption) ?_
                case hy => intro w hSw; (try dsimp only at hSw); go_simp; try with_reducible rfl
                try simp only [Act.put, List.getElem_toArray, List.getElem_cons_succ, List.getElem_cons_zero, List.setIfInBounds_toArray, List.set_cons_zero, List.set_cons_succ]
                refine wpAnyH_done (by kernel_rfl) ?_ _
                refine NoPanic.normal ?_
                try (go_wp2_with fail)
                go_meet
                exact ⟨_, rfl, rfl, rfl, HF19⟩
          case rest =>
            obtain ⟨B1, rfl, rfl, rfl, HC1⟩ := hcut
            obtain ⟨w6, hw6⟩ : ∃ x, x = wc := ⟨_, rfl⟩
            rw [← hw6] at HC1
            simp only [← hw6]
            clear hw6 HL19 HS19 d0 d1 d2 d3
            have HU6 := Lib.hid (HUY.out.below HC1.out.2.2)
            have HKA6 := Lib.hid (fun (wx : World) (hx : Below w6.heap.size w6 wx) => HKA.out wx (HC1.out.2.2.trans (hx.mono HC1.out.2.2.size)))
            have HKB6 := Lib.hid (fun (wx : World) (hx : Below w6.heap.size w6 wx) => HKB.out wx (HC1.out.2.2.trans (hx.mono HC1.out.2.2.size)))
            obtain ⟨e0, e1, e2, e3⟩ := HKB6.out w6 (Below.refl _ _)
            have HL20 := Lib.hid (fun (wx : World) (hx : Below w6.heap.size w6 wx) => tres_last (HU6.out.below hx) htu)
            have HS20 := Lib.hid (fun (wx : World) (gk : Nat) (hx : Below w6.heap.size w6 wx) (hg : wx.heap[gk]? = some (.cells #[.int .u8 kind, .string qctx, .string qres, .string qorg] 30)) => tres_sumone (HU6.out.below hx) htu ⟨kind, qctx, qres, qorg⟩ HQM.out gk hg)
            have HBw60 := Lib.hid (show Below w6.heap.size w6 w6.drew from (Below.refl _ _).drew)
            rw [HXC.out, HFL.out] at HS20
            unfold ctV at HS20
            dsimp only at HS20
            go_upto_region 20 with (fail)
            go_cut [16, 17, 18] from 58 to 113 (fun x y z wx => ∃ B, x = .pointer (some ⟨B, 0, none⟩) ∧ y = .int .i64 FL ∧ z = .int .i64 0 ∧ Hid (w6.heap.size ≤ B ∧ wx.heap[B]? = some (.cells #[.int .i64 xp, .int .i64 xb, .int .i64 xd, .int .i64 xe, .int .i64 xr, .int .i64 xm] 32) ∧ Below w6.heap.size w6 wx))
            case first =>
              refine wp_region_noPanic ?_
              refine wp_region_held_drew (S := (fun wx => wx.cell? ⟨g5, i * 4, none⟩ = some (.int .u8 kind) ∧ wx.cell? ⟨g5, i * 4 + 1, none⟩ = some (.string qctx) ∧ wx.cell? ⟨g5, i * 4 + 2, none⟩ = some (.string qres) ∧ wx.cell? ⟨g5, i * 4 + 3, none⟩ = some (.string qorg))) (by kernel_rfl) ?_ (fun hHeld => ?_)
              · exact HKB6.out _ HBw60.out
              refine wpAnyH_take (i := 0) (v := ?_) rfl (by kernel_rfl) (by kernel_rfl) (by kernel_rfl) (fun _ _ _ h => h) (Or.inl ⟨by rfl, ?hy⟩) (by assumption) ?_
              case hy => intro w hSw; (try dsimp only at hSw); go_simp; try with_reducible rfl
              try simp only [Act.put, List.getElem_toArray, List.getElem_cons_succ, List.getElem_cons_zero, List.setIfInBounds_toArray, List.set_cons_zero, List.set_cons_succ]
              refine wpAnyH_take (i := 1) (v := ?_) rfl (by kernel_rfl) (by kernel_rfl) (by kernel_rfl) (fun _ _ _ h => h) (Or.inl ⟨by rfl, ?hy⟩) (by assumption) ?_
              case hy => intro w hSw; (try dsimp only at hSw); go_simp; try with_reducible rfl
              try simp only [Act.put, List.getElem_toArray, List.getElem_cons_succ, List.getElem_cons_zero, List.setIfInBounds_toArray, List.set_cons_zero, List.set_cons_succ]
              refine wpAnyH_take (i := 3) (v := ?_) rfl (by kernel_rfl) (by kernel_rfl) (by kernel_rfl) (fun _ _ _ h => h) (Or.inl ⟨by rfl, ?hy⟩) (by assumption) ?_
              case hy => intro w hSw; (try dsimp only at hSw); go_simp; try with_reducible rfl
              try simp only [Act.put, List.getElem_toArray, List.getElem_cons_succ, List.getElem_cons_zero, List.setIfInBounds_toArray, List.set_cons_zero, List.set_cons_succ]
              refine wpAnyH_take (i := 4) (v := ?_) rfl (by kernel_rfl) (by kernel_rfl) (by kernel_rfl) (fun _ _ _ h => h) (Or.inl ⟨by rfl, ?hy⟩) (by assumption) ?_
              case hy => intro w hSw; (try dsimp only at hSw); go_simp; try with_reducible rfl
              try simp only [Act.put, List.getElem_toArray, List.getElem_cons_succ, List.getElem_cons_zero, List.setIfInBounds_toArray, List.set_cons_zero, List.set_cons_succ]
              refine wpAnyH_take (i := 5) (v := ?_) rfl (by kernel_rfl) (by kernel_rfl) (by kernel_rfl) (fun _ _ _ h => h) (Or.inl ⟨by rfl, ?hy⟩) (by assumption) ?_
              case hy => intro w hSw; (try dsimp only at hSw); go_simp; try with_reducible rfl
              try simp only [Act.put, List.getElem_toArray, List.getElem_cons_succ, List.getElem_cons_zero, List.setIfInBounds_toArray, List.set_cons_zero, List.set_cons_succ]
              refine wpAnyH_take (i := 6) (v := ?_) rfl (by kernel_rfl) (by kernel_rfl) (by kernel_rfl) (fun _ _ _ h => h) (Or.inl ⟨by rfl, ?hy⟩) (by assumption) ?_
              case hy => intro w hSw; (try dsimp only at hSw); go_simp; try with_reducible rfl
              try simp only [Act.put, List.getElem_toArray, List.getElem_cons_succ, List.getElem_cons_zero, List.setIfInBounds_toArray, List.set_cons_zero, List.set_cons_succ]
              obtain ⟨wd20, hwd20⟩ : ∃ x, w6.drew = x := ⟨_, rfl⟩
              have HBwd20 := Lib.hid (show Below w6.heap.size w6 wd20 from by rw [← hwd20]; exact (Below.refl _ _).drew)
              simp only [hwd20] at hHeld ⊢
              clear hwd20
              refine wpAnyH_ready (rs := [2, 7, 13]) (by kernel_rfl) (by simp) (AllReadyH.cons rfl (fun K hK => ?_) (AllReadyH.cons rfl (fun K hK => ?_) (AllReadyH.cons rfl (fun K hK => ?_) AllReadyH.nil)))
              · go_simp
                go_at_call 11
                refine (HL20.out wd20 HBwd20.out).mono ?_
                rintro e wl1 ⟨rfl, hq⟩
                rw [hq]
                clear hq
                try (go_wp2_with fail)
                refine hK.out _ _ ?_ (fun hHeld => ?_)
                · exact HKB6.out _ HBwd20.out
                clear hK K
                try simp only [Act.put, List.getElem_toArray, List.getElem_cons_succ, List.getElem_cons_zero, List.setIfInBounds_toArray, List.set_cons_zero, List.set_cons_succ]
                refine wpAnyH_ready (rs := [7, 13]) (by kernel_rfl) (by simp) (AllReadyH.cons rfl (fun K hK => ?_) (AllReadyH.cons rfl (fun K hK => ?_) AllReadyH.nil))
                · go_simp
                  try (go_wp2_with fail)
                  obtain ⟨wa20x2, hwa20x2⟩ : ∃ x, wd20.alloc (.cells #[.int .u8 kind, .string qctx, .string qres, .string qorg] 30) = x := ⟨_, rfl⟩
                  have HAwa20x2 := Lib.hid (show Below wd20.heap.size wd20 wa20x2 from by rw [← hwa20x2]; exact (Below.refl _ _).alloc (Nat.le_refl _) _)
                  have HNwa20x2 := Lib.hid (show wa20x2.heap[wd20.heap.size]? = some (.cells #[.int .u8 kind, .string qctx, .string qres, .string qorg] 30) from by rw [← hwa20x2]; exact new_blockS wd20 _)
                  have HBwa20x2 := Lib.hid (HBwd20.out.trans (HAwa20x2.out.mono HBwd20.out.size))
                  have HKwa20x2 := HNwa20x2
                  rw [hwa20x2]
                  clear hwa20x2
                  refine hK.out _ _ ?_ (fun hHeld => ?_)
                  · exact HKB6.out _ HBwa20x2.out
                  clear hK K
                  try simp only [Act.put, List.getElem_toArray, List.getElem_cons_succ, List.getElem_cons_zero, List.setIfInBounds_toArray, List.set_cons_zero, List.set_cons_succ]
                  refine wpAnyH_ready (rs := [8, 13]) (by kernel_rfl) (by simp) (AllReadyH.cons rfl (fun K hK => ?_) (AllReadyH.cons rfl (fun K hK => ?_) AllReadyH.nil))
                  · go_simp
                    go_at_call 10
                    refine (HS20.out wa20x2 _ HBwa20x2.out HKwa20x2.out).mono ?_
                    rintro e ws20x3 ⟨rfl, hby⟩
                    have HBws20x3 := Lib.hid (HBwa20x2.out.trans (hby.mono HBwa20x2.out.size))
                    have HKws20x3 := Lib.hid (hby.block _ (Array.getElem?_eq_some_iff.1 HKwa20x2.out).1 |>.trans HKwa20x2.out)
                    clear hby
                    try (go_wp2_with fail)
                    refine hK.out _ _ ?_ (fun hHeld => ?_)
                    · exact HKB6.out _ HBws20x3.out
                    clear hK K
                    try simp only [Act.put, List.getElem_toArray, List.getElem_cons_succ, List.getElem_cons_zero, List.setIfInBounds_toArray, List.set_cons_zero, List.set_cons_succ]
                    refine wpAnyH_take (i := 9) (v := ?_) rfl (by kernel_rfl) (by kernel_rfl) (by kernel_rfl) (fun _ _ _ h => h) (Or.inl ⟨by rfl, ?hy⟩) (by assumption) ?_
                    case hy => intro w hSw; (try dsimp only at hSw); go_simp; try with_reducible rfl
                    try simp only [Act.put, List.getElem_toArray, List.getElem_cons_succ, List.getElem_cons_zero, List.setIfInBounds_toArray, List.set_cons_zero, List.set_cons_succ]
                    refine wpAnyH_take (i := 10) (v := ?_) rfl (by kernel_rfl) (by kernel_rfl) (by kernel_rfl) (fun _ _ _ h => h) (Or.inl ⟨by rfl, ?hy⟩) (by assumption) ?_
                    case hy => intro w hSw; (try dsimp only at hSw); go_simp; try with_reducible rfl
                    try simp only [Act.put, List.getElem_toArray, List.getElem_cons_succ, List.getElem_cons_zero, List.setIfInBounds_toArray, List.set_cons_zero, List.set_cons_succ]
                    refine wpAnyH_take (i := 11) (v := ?_) rfl (by kernel_rfl) (by kernel_rfl) (by kernel_rfl) (fun _ _ _ h => h) (Or.inl ⟨by rfl, ?hy⟩) (by assumption) ?_
                    case hy => intro w hSw; (try dsimp only at hSw); go_simp; try with_reducible rfl
                    try simp only [Act.put, List.getElem_toArray, List.getElem_cons_succ, List.getElem_cons_zero, List.setIfInBounds_toArray, List.set_cons_zero, List.set_cons_succ]
                    refine wpAnyH_take (i := 12) (v := ?_) rfl (by kernel_rfl) (by kernel_rfl) (by kernel_rfl) (fun _ _ _ h => h) (Or.inl ⟨by rfl, ?hy⟩) (by assumption) ?_
                    case hy => intro w hSw; (try dsimp only at hSw); go_simp; try with_reducible rfl
                    try simp only [Act.put, List.getElem_toArray, List.getElem_cons_succ, List.getElem_cons_zero, List.setIfInBounds_toArray, List.set_cons_zero, List.set_cons_succ]
                    refine wpAnyH_ready (rs := [13]) (by kernel_rfl) (by simp) (AllReadyH.cons rfl (fun K hK => ?_) AllReadyH.nil)
                    go_simp
                    try (go_wp2_with fail)
                    obtain ⟨wa20x4, hwa20x4⟩ : ∃ x, ws20x3.alloc (.cells #[.int .i64 0, .int .i64 0, .int .i64 0, .int .i64 0, .int .i64 0, .int .i64 0] 32) = x := ⟨_, rfl⟩
                    have HAwa20x4 := Lib.hid (show Below ws20x3.heap.size ws20x3 wa20x4 from by rw [← hwa20x4]; exact (Below.refl _ _).alloc (Nat.le_refl _) _)
                    have HNwa20x4 := Lib.hid (show wa20x4.heap[ws20x3.heap.size]? = some (.cells #[.int .i64 0, .int .i64 0, .int .i64 0, .int .i64 0, .int .i64 0, .int .i64 0] 32) from by rw [← hwa20x4]; exact new_blockS ws20x3 _)
                    have HBwa20x4 := Lib.hid (HBws20x3.out.trans (HAwa20x4.out.mono HBws20x3.out.size))
                    have HKwa20x4 := Lib.hid (HAwa20x4.out.block _ (Array.getElem?_eq_some_iff.1 HKws20x3.out).1 |>.trans HKws20x3.out)
                    have HCwa20x4 := HNwa20x4
                    have HG20 := Lib.hid (show w6.heap.size ≤ ws20x3.heap.size from HBws20x3.out.size)
                    rw [hwa20x4]
                    clear hwa20x4
                    refine hK.out _ _ ?_ (fun hHeld => ?_)
                    · exact HKB6.out _ HBwa20x4.out
                    clear hK K
                    try simp only [Act.put, List.getElem_toArray, List.getElem_cons_succ, List.getElem_cons_zero, List.setIfInBounds_toArray, List.set_cons_zero, List.set_cons_succ]
                    refine wpAnyH_ready (rs := [14]) (by kernel_rfl) (by simp) (AllReadyH.cons rfl (fun K hK => ?_) AllReadyH.nil)
                    obtain ⟨⟨z0, z1, z2, z3, z4, z5⟩, zf⟩ := ct_cells (c := .zero) HCwa20x4.out
                    dsimp only [CntS.zero] at z0 z1 z2 z3 z4 z5
                    go_simp
                    have HF20 := Lib.hid (fin_set HBwa20x4.out HG20.out HCwa20x4.out xp xb xd xe xr xm)
                    refine hK.out _ _ ?_ (fun hHeld => ?_)
                    · exact HKB6.out _ HF20.out.2.2
                    clear hK K
                    try simp only [Act.put, List.getElem_toArray, List.getElem_cons_succ, List.getElem_cons_zero, List.setIfInBounds_toArray, List.set_cons_zero, List.set_cons_succ]
                    refine wpAnyH_take (i := 15) (v := ?_) rfl (by kernel_rfl) (by kernel_rfl) (by kernel_rfl) (fun _ _ _ h => h) (Or.inl ⟨by rfl, ?hy⟩) (by assumption) ?_
                    case hy => intro w hSw; (try dsimp only at hSw); go_simp; try with_reducible rfl
                    try simp only [Act.put, List.getElem_toArray, List.getElem_cons_succ, List.getElem_cons_zero, List.setIfInBounds_toArray, List.set_cons_zero, List.set_cons_succ]
                    refine wpAnyH_take (i := 16) (v := ?_) rfl (by kernel_rfl) (by kernel_rfl) (by kernel_rfl) (fun _ _ _ h => h) (Or.inl ⟨by rfl, ?hy⟩) (by assumption) ?_
                    case hy => intro w hSw; (try dsimp only at hSw); go_simp; try with_reducible rfl
                    try simp only [Act.put, List.getElem_toArray, List.getElem_cons_succ, List.getElem_cons_zero, List.setIfInBounds_toArray, List.set_cons_zero, List.set_cons_succ]
                    refine wpAnyH_done (by kernel_rfl) ?_ _
                    refine NoPanic.normal ?_
                    try (go_wp2_with fail)
                    go_meet
                    exact ⟨_, rfl, rfl, rfl, HF20⟩
                  · go_simp
                    try (go_wp2_with fail)
                    obtain ⟨wa20x6, hwa20x6⟩ : ∃ x, wa20x2.alloc (.cells #[.int .i64 0, .int .i64 0, .int .i64 0, .int .i64 0, .int .i64 0, .int .i64 0] 32) = x := ⟨_, rfl⟩
                    have HAwa20x6 := Lib.hid (show Below wa20x2.heap.size wa20x2 wa20x6 from by rw [← hwa20x6]; exact (Below.refl _ _).alloc (Nat.le_refl _) _)
                    have HNwa20x6 := Lib.hid (show wa20x6.heap[wa20x2.heap.size]? = some (.cells #[.int .i64 0, .int .i64 0, .int .i64 0, .int .i64 0, .int .i64 0, .int .i64 0] 32) from by rw [← hwa20x6]; exact new_blockS wa20x2 _)
                    have HBwa20x6 := Lib.hid (HBwa20x2.out.trans (HAwa20x6.out.mono HBwa20x2.out.size))
                    have HKwa20x6 := Lib.hid (HAwa20x6.out.block _ (Array.getElem?_eq_some_iff.1 HKwa20x2.out).1 |>.trans HKwa20x2.out)
                    have HCwa20x6 := HNwa20x6
                    have HG20 := Lib.hid (show w6.heap.size ≤ wa20x2.heap.size from HBwa20x2.out.size)
                    rw [hwa20x6]
                    clear hwa20x6
                    refine hK.out _ _ ?_ (fun hHeld => ?_)
                    · exact HKB6.out _ HBwa20x6.out
                    clear hK K
                    try simp only [Act.put, List.getElem_toArray, List.getElem_cons_succ, List.getElem_cons_zero, List.setIfInBounds_toArray, List.set_cons_zero, List.set_cons_succ]
                    refine wpAnyH_ready (rs := [8]) (by kernel_rfl) (by simp) (AllReadyH.cons rfl (fun K hK => ?_) AllReadyH.nil)
                    go_simp
                    go_at_call 10
                    refine (HS20.out wa20x6 _ HBwa20x6.out HKwa20x6.out).mono ?_
                    rintro e ws20x7 ⟨rfl, hby⟩
                    have HBws20x7 := Lib.hid (HBwa20x6.out.trans (hby.mono HBwa20x6.out.size))
                    have HKws20x7 := Lib.hid (hby.block _ (Array.getElem?_eq_some_iff.1 HKwa20x6.out).1 |>.trans HKwa20x6.out)
                    have HCws20x7 := Lib.hid (hby.block _ (Array.getElem?_eq_some_iff.1 HCwa20x6.out).1 |>.trans HCwa20x6.out)
                    clear hby
                    try (go_wp2_with fail)
                    refine hK.out _ _ ?_ (fun hHeld => ?_)
                    · exact HKB6.out _ HBws20x7.out
                    clear hK K
                    try simp only [Act.put, List.getElem_toArray, List.getElem_cons_succ, List.getElem_cons_zero, List.setIfInBounds_toArray, List.set_cons_zero, List.set_cons_succ]
                    refine wpAnyH_take (i := 9) (v := ?_) rfl (by kernel_rfl) (by kernel_rfl) (by kernel_rfl) (fun _ _ _ h => h) (Or.inl ⟨by rfl, ?hy⟩) (by assumption) ?_
                    case hy => intro w hSw; (try dsimp only at hSw); go_simp; try with_reducible rfl
                    try simp only [Act.put, List.getElem_toArray, List.getElem_cons_succ, List.getElem_cons_zero, List.setIfInBounds_toArray, List.set_cons_zero, List.set_cons_succ]
                    refine wpAnyH_take (i := 10) (v := ?_) rfl (by kernel_rfl) (by kernel_rfl) (by kernel_rfl) (fun _ _ _ h => h) (Or.inl ⟨by rfl, ?hy⟩) (by assumption) ?_
                    case hy => intro w hSw; (try dsimp only at hSw); go_simp; try with_reducible rfl
                    try simp only [Act.put, List.getElem_toArray, List.getElem_cons_succ, List.getElem_cons_zero, List.setIfInBounds_toArray, List.set_cons_zero, List.set_cons_succ]
                    refine wpAnyH_take (i := 11) (v := ?_) rfl (by kernel_rfl) (by kernel_rfl) (by kernel_rfl) (fun _ _ _ h => h) (Or.inl ⟨by rfl, ?hy⟩) (by assumption) ?_
                    case hy => intro w hSw; (try dsimp only at hSw); go_simp; try with_reducible rfl
                    try simp only [Act.put, List.getElem_toArray, List.getElem_cons_succ, List.getElem_cons_zero, List.setIfInBounds_toArray, List.set_cons_zero, List.set_cons_succ]
                    refine wpAnyH_take (i := 12) (v := ?_) rfl (by kernel_rfl) (by kernel_rfl) (by kernel_rfl) (fun _ _ _ h => h) (Or.inl ⟨by rfl, ?hy⟩) (by assumption) ?_
                    case hy => intro w hSw; (try dsimp only at hSw); go_simp; try with_reducible rfl
                    try simp only [Act.put, List.getElem_toArray, List.getElem_cons_succ, List.getElem_cons_zero, List.setIfInBounds_toArray, List.set_cons_zero, List.set_cons_succ]
                    refine wpAnyH_ready (rs := [14]) (by kernel_rfl) (by simp) (AllReadyH.cons rfl (fun K hK => ?_) AllReadyH.nil)
                    obtain ⟨⟨z0, z1, z2, z3, z4, z5⟩, zf⟩ := ct_cells (c := .zero) HCws20x7.out
                    dsimp only [CntS.zero] at z0 z1 z2 z3 z4 z5
                    go_simp
                    have HF20 := Lib.hid (fin_set HBws20x7.out HG20.out HCws20x7.out xp xb xd xe xr xm)
                    refine hK.out _ _ ?_ (fun hHeld => ?_)
                    · exact HKB6.out _ HF20.out.2.2
                    clear hK K
                    try simp only [Act.put, List.getElem_toArray, List.getElem_cons_succ, List.getElem_cons_zero, List.setIfInBounds_toArray, List.set_cons_zero, List.set_cons_succ]
                    refine wpAnyH_take (i := 15) (v := ?_) rfl (by kernel_rfl) (by kernel_rfl) (by kernel_rfl) (fun _ _ _ h => h) (Or.inl ⟨by rfl, ?hy⟩) (by assumption) ?_
                    case hy => intro w hSw; (try dsimp only at hSw); go_simp; try with_reducible rfl
                    try simp only [Act.put, List.getElem_toArray, List.getElem_cons_succ, List.getElem_cons_zero, List.setIfInBounds_toArray, List.set_cons_zero, List.set_cons_succ]
                    refine wpAnyH_take (i := 16) (v := ?_) rfl (by kernel_rfl) (by kernel_rfl) (by kernel_rfl) (fun _ _ _ h => h) (Or.inl ⟨by rfl, ?hy⟩) (by assumption) ?_
                    case hy => intro w hSw; (try dsimp only at hSw); go_simp; try with_reducible rfl
                    try simp only [Act.put, List.getElem_toArray, List.getElem_cons_succ, List.getElem_cons_zero, List.setIfInBounds_toArray, List.set_cons_zero, List.set_cons_succ]
                    refine wpAnyH_done (by kernel_rfl) ?_ _
                    refine NoPanic.normal ?_
                    try (go_wp2_with fail)
                    go_meet
                    exact ⟨_, rfl, rfl, rfl, HF20⟩
                · go_simp
                  try (go_wp2_with fail)
                  obtain ⟨wa20x9, hwa20x9⟩ : ∃ x, wd20.alloc (.cells #[.int .i64 0, .int .i64 0, .int .i64 0, .int .i64 0, .int .i64 0, .int .i64 0] 32) = x := ⟨_, rfl⟩
                  have HAwa20x9 := Lib.hid (show Below wd20.heap.size wd20 wa20x9 from by rw [← hwa20x9]; exact (Below.refl _ _).alloc (Nat.le_refl _) _)
                  have HNwa20x9 := Lib.hid (show wa20x9.heap[wd20.heap.size]? = some (.cells #[.int .i64 0, .int .i64 0, .int .i64 0, .int .i64 0, .int .i64 0, .int .i64 0] 32) from by rw [← hwa20x9]; exact new_blockS wd20 _)
                  have HBwa20x9 := Lib.hid (HBwd20.out.trans (HAwa20x9.out.mono HBwd20.out.size))
                  have HCwa20x9 := HNwa20x9
                  have HG20 := Lib.hid (show w6.heap.size ≤ wd20.heap.size from HBwd20.out.size)
                  rw [hwa20x9]
                  clear hwa20x9
                  refine hK.out _ _ ?_ (fun hHeld => ?_)
                  · exact HKB6.out _ HBwa20x9.out
                  clear hK K
                  try simp only [Act.put, List.getElem_toArray, List.getElem_cons_succ, List.getElem_cons_zero, List.setIfInBounds_toArray, List.set_cons_zero, List.set_cons_succ]
                  refine wpAnyH_ready (rs := [7]) (by kernel_rfl) (by simp) (AllReadyH.cons rfl (fun K hK => ?_) AllReadyH.nil)
                  go_simp
                  try (go_wp2_with fail)
                  obtain ⟨wa20x10, hwa20x10⟩ : ∃ x, wa20x9.alloc (.cells #[.int .u8 kind, .string qctx, .string qres, .string qorg] 30) = x := ⟨_, rfl⟩
                  have HAwa20x10 := Lib.hid (show Below wa20x9.heap.size wa20x9 wa20x10 from by rw [← hwa20x10]; exact (Below.refl _ _).alloc (Nat.le_refl _) _)
                  have HNwa20x10 := Lib.hid (show wa20x10.heap[wa20x9.heap.size]? = some (.cells #[.int .u8 kind, .string qctx, .string qres, .string qorg] 30) from by rw [← hwa20x10]; exact new_blockS wa20x9 _)
                  have HBwa20x10 := Lib.hid (HBwa20x9.out.trans (HAwa20x10.out.mono HBwa20x9.out.size))
                  have HCwa20x10 := Lib.hid (HAwa20x10.out.block _ (Array.getElem?_eq_some_iff.1 HCwa20x9.out).1 |>.trans HCwa20x9.out)
                  have HKwa20x10 := HNwa20x10
                  rw [hwa20x10]
                  clear hwa20x10
                  refine hK.out _ _ ?_ (fun hHeld => ?_)
                  · exact HKB6.out _ HBwa20x10.out
                  clear hK K
                  try simp only [Act.put, List.getElem_toArray, List.getElem_cons_succ, List.getElem_cons_zero, List.setIfInBounds_toArray, List.set_cons_zero, List.set_cons_succ]
                  refine wpAnyH_ready (rs := [8]) (by kernel_rfl) (by simp) (AllReadyH.cons rfl (fun K hK => ?_) AllReadyH.nil)
                  go_simp
                  go_at_call 10
                  refine (HS20.out wa20x10 _ HBwa20x10.out HKwa20x10.out).mono ?_
                  rintro e ws20x11 ⟨rfl, hby⟩
                  have HBws20x11 := Lib.hid (HBwa20x10.out.trans (hby.mono HBwa20x10.out.size))
                  have HKws20x11 := Lib.hid (hby.block _ (Array.getElem?_eq_some_iff.1 HKwa20x10.out).1 |>.trans HKwa20x10.out)
                  have HCws20x11 := Lib.hid (hby.block _ (Array.getElem?_eq_some_iff.1 HCwa20x10.out).1 |>.trans HCwa20x10.out)
                  clear hby
                  try (go_wp2_with fail)
                  refine hK.out _ _ ?_ (fun hHeld => ?_)
                  · exact HKB6.out _ HBws20x11.out
                  clear hK K
                  try simp only [Act.put, List.getElem_toArray, List.getElem_cons_succ, List.getElem_cons_zero, List.setIfInBounds_toArray, List.set_cons_zero, List.set_cons_succ]
                  refine wpAnyH_take (i := 9) (v := ?_) rfl (by kernel_rfl) (by kernel_rfl) (by kernel_rfl) (fun _ _ _ h => h) (Or.inl ⟨by rfl, ?hy⟩) (by assumption) ?_
                  case hy => intro w hSw; (try dsimp only at hSw); go_simp; try with_reducible rfl
                  try simp only [Act.put, List.getElem_toArray, List.getElem_cons_succ, List.getElem_cons_zero, List.setIfInBounds_toArray, List.set_cons_zero, List.set_cons_succ]
                  refine wpAnyH_take (i := 10) (v := ?_) rfl (by kernel_rfl) (by kernel_rfl) (by kernel_rfl) (fun _ _ _ h => h) (Or.inl ⟨by rfl, ?hy⟩) (by assumption) ?_
                  case hy => intro w hSw; (try dsimp only at hSw); go_simp; try with_reducible rfl
                  try simp only [Act.put, List.getElem_toArray, List.getElem_cons_succ, List.getElem_cons_zero, List.setIfInBounds_toArray, List.set_cons_zero, List.set_cons_succ]
                  refine wpAnyH_take (i := 11) (v := ?_) rfl (by kernel_rfl) (by kernel_rfl) (by kernel_rfl) (fun _ _ _ h => h) (Or.inl ⟨by rfl, ?hy⟩) (by assumption) ?_
                  case hy => intro w hSw; (try dsimp only at hSw); go_simp; try with_reducible rfl
                  try simp only [Act.put, List.getElem_toArray, List.getElem_cons_succ, List.getElem_cons_zero, List.setIfInBounds_toArray, List.set_cons_zero, List.set_cons_succ]
                  refine wpAnyH_take (i := 12) (v := ?_) rfl (by kernel_rfl) (by kernel_rfl) (by kernel_rfl) (fun _ _ _ h => h) (Or.inl ⟨by rfl, ?hy⟩) (by assumption) ?_
                  case hy => intro w hSw; (try dsimp only at hSw); go_simp; try with_reducible rfl
                  try simp only [Act.put, List.getElem_toArray, List.getElem_cons_succ, List.getElem_cons_zero, List.setIfInBounds_toArray, List.set_cons_zero, List.set_cons_succ]
                  refine wpAnyH_ready (rs := [14]) (by kernel_rfl) (by simp) (AllReadyH.cons rfl (fun K hK => ?_) AllReadyH.nil)
                  obtain ⟨⟨z0, z1, z2, z3, z4, z5⟩, zf⟩ := ct_cells (c := .zero) HCws20x11.out
                  dsimp only [CntS.zero] at z0 z1 z2 z3 z4 z5
                  go_simp
                  have HF20 := Lib.hid (fin_set HBws20x11.out HG20.out HCws20x11.out xp xb xd xe xr xm)
                  refine hK.out _ _ ?_ (fun hHeld => ?_)
                  · exact HKB6.out _ HF20.out.2.2
                  clear hK K
                  try simp only [Act.put, List.getElem_toArray, List.getElem_cons_succ, List.getElem_cons_zero, List.setIfInBounds_toArray, List.set_cons_zero, List.set_cons_succ]
                  refine wpAnyH_take (i := 15) (v := ?_) rfl (by kernel_rfl) (by kernel_rfl) (by kernel_rfl) (fun _ _ _ h => h) (Or.inl ⟨by rfl, ?hy⟩) (by assumption) ?_
                  case hy => intro w hSw; (try dsimp only at hSw); go_simp; try with_reducible rfl
                  try simp only [Act.put, List.getElem_toArray, List.getElem_cons_succ, List.getElem_cons_zero, List.setIfInBounds_toArray, List.set_cons_zero, List.set_cons_succ]
                  refine wpAnyH_take (i := 16) (v := ?_) rfl (by kernel_rfl) (by kernel_rfl) (by kernel_rfl) (fun _ _ _ h => h) (Or.inl ⟨by rfl, ?hy⟩) (by assumption) ?_
                  case hy => intro w hSw; (try dsimp only at hSw); go_simp; try with_reducible rfl
                  try simp only [Act.put, List.getElem_toArray, List.getElem_cons_succ, List.getElem_cons_zero, List.setIfInBounds_toArray, List.set_cons_zero, List.set_cons_succ]
                  refine wpAnyH_done (by kernel_rfl) ?_ _
                  refine NoPanic.normal ?_
                  try (go_wp2_with fail)
                  go_meet
                  exact ⟨_, rfl, rfl, rfl, HF20⟩
              · go_simp
                try (go_wp2_with fail)
                obtain ⟨wa20x13, hwa20x13⟩ : ∃ x, wd20.alloc (.cells #[.int .u8 kind, .string qctx, .string qres, .string qorg] 30) = x := ⟨_, rfl⟩
                have HAwa20x13 := Lib.hid (show Below wd20.heap.size wd20 wa20x13 from by rw [← hwa20x13]; exact (Below.refl _ _).alloc (Nat.le_refl _) _)
                have HNwa20x13 := Lib.hid (show wa20x13.heap[wd20.heap.size]? = some (.cells #[.int .u8 kind, .string qctx, .string qres, .string qorg] 30) from by rw [← hwa20x13]; exact new_blockS wd20 _)
                have HBwa20x13 := Lib.hid (HBwd20.out.trans (HAwa20x13.out.mono HBwd20.out.size))
                have HKwa20x13 := HNwa20x13
                rw [hwa20x13]
                clear hwa20x13
                refine hK.out _ _ ?_ (fun hHeld => ?_)
                · exact HKB6.out _ HBwa20x13.out
                clear hK K
                try simp only [Act.put, List.getElem_toArray, List.getElem_cons_succ, List.getElem_cons_zero, List.setIfInBounds_toArray, List.set_cons_zero, List.set_cons_succ]
                refine wpAnyH_ready (rs := [2, 13]) (by kernel_rfl) (by simp) (AllReadyH.cons rfl (fun K hK => ?_) (AllReadyH.cons rfl (fun K hK => ?_) AllReadyH.nil))
                · go_simp
                  go_at_call 11
                  refine (HL20.out wa20x13 HBwa20x13.out).mono ?_
                  rintro e wl14 ⟨rfl, hq⟩
                  rw [hq]
                  clear hq
                  try (go_wp2_with fail)
                  refine hK.out _ _ ?_ (fun hHeld => ?_)
                  · exact HKB6.out _ HBwa20x13.out
                  clear hK K
                  try simp only [Act.put, List.getElem_toArray, List.getElem_cons_succ, List.getElem_cons_zero, List.setIfInBounds_toArray, List.set_cons_zero, List.set_cons_succ]
                  refine wpAnyH_ready (rs := [8, 13]) (by kernel_rfl) (by simp) (AllReadyH.cons rfl (fun K hK => ?_) (AllReadyH.cons rfl (fun K hK => ?_) AllReadyH.nil))
                  · go_simp
                    go_at_call 10
                    refine (HS20.out wa20x13 _ HBwa20x13.out HKwa20x13.out).mono ?_
                    rintro e ws20x15 ⟨rfl, hby⟩
                    have HBws20x15 := Lib.hid (HBwa20x13.out.trans (hby.mono HBwa20x13.out.size))
                    have HKws20x15 := Lib.hid (hby.block _ (Array.getElem?_eq_some_iff.1 HKwa20x13.out).1 |>.trans HKwa20x13.out)
                    clear hby
                    try (go_wp2_with fail)
                    refine hK.out _ _ ?_ (fun hHeld => ?_)
                    · exact HKB6.out _ HBws20x15.out
                    clear hK K
                    try simp only [Act.put, List.getElem_toArray, List.getElem_cons_succ, List.getElem_cons_zero, List.setIfInBounds_toArray, List.set_cons_zero, List.set_cons_succ]
                    refine wpAnyH_take (i := 9) (v := ?_) rfl (by kernel_rfl) (by kernel_rfl) (by kernel_rfl) (fun _ _ _ h => h) (Or.inl ⟨by rfl, ?hy⟩) (by assumption) ?_
                    case hy => intro w hSw; (try dsimp only at hSw); go_simp; try with_reducible rfl
                    try simp only [Act.put, List.getElem_toArray, List.getElem_cons_succ, List.getElem_cons_zero, List.setIfInBounds_toArray, List.set_cons_zero, List.set_cons_succ]
                    refine wpAnyH_take (i := 10) (v := ?_) rfl (by kernel_rfl) (by kernel_rfl) (by kernel_rfl) (fun _ _ _ h => h) (Or.inl ⟨by rfl, ?hy⟩) (by assumption) ?_
                    case hy => intro w hSw; (try dsimp only at hSw); go_simp; try with_reducible rfl
                    try simp only [Act.put, List.getElem_toArray, List.getElem_cons_succ, List.getElem_cons_zero, List.setIfInBounds_toArray, List.set_cons_zero, List.set_cons_succ]
                    refine wpAnyH_take (i := 11) (v := ?_) rfl (by kernel_rfl) (by kernel_rfl) (by kernel_rfl) (fun _ _ _ h => h) (Or.inl ⟨by rfl, ?hy⟩) (by assumption) ?_
                    case hy => intro w hSw; (try dsimp only at hSw); go_simp; try with_reducible rfl
                    try simp only [Act.put, List.getElem_toArray, List.getElem_cons_succ, List.getElem_cons_zero, List.setIfInBounds_toArray, List.set_cons_zero, List.set_cons_succ]
                    refine wpAnyH_take (i := 12) (v := ?_) rfl (by kernel_rfl) (by kernel_rfl) (by kernel_rfl) (fun _ _ _ h => h) (Or.inl ⟨by rfl, ?hy⟩) (by assumption) ?_
                    case hy => intro w hSw; (try dsimp only at hSw); go_simp; try with_reducible rfl
                    try simp only [Act.put, List.getElem_toArray, List.getElem_cons_succ, List.getElem_cons_zero, List.setIfInBounds_toArray, List.set_cons_zero, List.set_cons_succ]
                    refine wpAnyH_ready (rs := [13]) (by kernel_rfl) (by simp) (AllReadyH.cons rfl (fun K hK => ?_) AllReadyH.nil)
                    go_simp
                    try (go_wp2_with fail)
                    obtain ⟨wa20x16, hwa20x16⟩ : ∃ x, ws20x15.alloc (.cells #[.int .i64 0, .int .i64 0, .int .i64 0, .int .i64 0, .int .i64 0, .int .i64 0] 32) = x := ⟨_, rfl⟩
                    have HAwa20x16 := Lib.hid (show Below ws20x15.heap.size ws20x15 wa20x16 from by rw [← hwa20x16]; exact (Below.refl _ _).alloc (Nat.le_refl _) _)
                    have HNwa20x16 := Lib.hid (show wa20x16.heap[ws20x15.heap.size]? = some (.cells #[.int .i64 0, .int .i64 0, .int .i64 0, .int .i64 0, .int .i64 0, .int .i64 0] 32) from by rw [← hwa20x16]; exact new_blockS ws20x15 _)
                    have HBwa20x16 := Lib.hid (HBws20x15.out.trans (HAwa20x16.out.mono HBws20x15.out.size))
                    have HKwa20x16 := Lib.hid (HAwa20x16.out.block _ (Array.getElem?_eq_some_iff.1 HKws20x15.out).1 |>.trans HKws20x15.out)
                    have HCwa20x16 := HNwa20x16
                    have HG20 := Lib.hid (show w6.heap.size ≤ ws20x15.heap.size from HBws20x15.out.size)
                    rw [hwa20x16]
                    clear hwa20x16
                    refine hK.out _ _ ?_ (fun hHeld => ?_)
                    · exact HKB6.out _ HBwa20x16.out
                    clear hK K
                    try simp only [Act.put, List.getElem_toArray, List.getElem_cons_succ, List.getElem_cons_zero, List.setIfInBounds_toArray, List.set_cons_zero, List.set_cons_succ]
                    refine wpAnyH_ready (rs := [14]) (by kernel_rfl) (by simp) (AllReadyH.cons rfl (fun K hK => ?_) AllReadyH.nil)
                    obtain ⟨⟨z0, z1, z2, z3, z4, z5⟩, zf⟩ := ct_cells (c := .zero) HCwa20x16.out
                    dsimp only [CntS.zero] at z0 z1 z2 z3 z4 z5
                    go_simp
                    have HF20 := Lib.hid (fin_set HBwa20x16.out HG20.out HCwa20x16.out xp xb xd xe xr xm)
                    refine hK.out _ _ ?_ (fun hHeld => ?_)
                    · exact HKB6.out _ HF20.out.2.2
                    clear hK K
                    try simp only [Act.put, List.getElem_toArray, List.getElem_cons_succ, List.getElem_cons_zero, List.setIfInBounds_toArray, List.set_cons_zero, List.set_cons_succ]
                    refine wpAnyH_take (i := 15) (v := ?_) rfl (by kernel_rfl) (by kernel_rfl) (by kernel_rfl) (fun _ _ _ h => h) (Or.inl ⟨by rfl, ?hy⟩) (by assumption) ?_
                    case hy => intro w hSw; (try dsimp only at hSw); go_simp; try with_reducible rfl
                    try simp only [Act.put, List.getElem_toArray, List.getElem_cons_succ, List.getElem_cons_zero, List.setIfInBounds_toArray, List.set_cons_zero, List.set_cons_succ]
                    refine wpAnyH_take (i := 16) (v := ?_) rfl (by kernel_rfl) (by kernel_rfl) (by kernel_rfl) (fun _ _ _ h => h) (Or.inl ⟨by rfl, ?hy⟩) (by assumption) ?_
                    case hy => intro w hSw; (try dsimp only at hSw); go_simp; try with_reducible rfl
                    try simp only [Act.put, List.getElem_toArray, List.getElem_cons_succ, List.getElem_cons_zero, List.setIfInBounds_toArray, List.set_cons_zero, List.set_cons_succ]
                    refine wpAnyH_done (by kernel_rfl) ?_ _
                    refine NoPanic.normal ?_
                    try (go_wp2_with fail)
                    go_meet
                    exact ⟨_, rfl, rfl, rfl, HF20⟩
                  · go_simp
                    try (go_wp2_with fail)
                    obtain ⟨wa20x18, hwa20x18⟩ : ∃ x, wa20x13.alloc (.cells #[.int .i64 0, .int .i64 0, .int .i64 0, .int .i64 0, .int .i64 0, .int .i64 0] 32) = x := ⟨_, rfl⟩
                    have HAwa20x18 := Lib.hid (show Below wa20x13.heap.size wa20x13 wa20x18 from by rw [← hwa20x18]; exact (Below.refl _ _).alloc (Nat.le_refl _) _)
                    have HNwa20x18 := Lib.hid (show wa20x18.heap[wa20x13.heap.size]? = some (.cells #[.int .i64 0, .int .i64 0, .int .i64 0, .int .i64 0, .int .i64 0, .int .i64 0] 32) from by rw [← hwa20x18]; exact new_blockS wa20x13 _)
                    have HBwa20x18 := Lib.hid (HBwa20x13.out.trans (HAwa20x18.out.mono HBwa20x13.out.size))
                    have HKwa20x18 := Lib.hid (HAwa20x18.out.block _ (Array.getElem?_eq_some_iff.1 HKwa20x13.out).1 |>.trans HKwa20x13.out)
                    have HCwa20x18 := HNwa20x18
                    have HG20 := Lib.hid (show w6.heap.size ≤ wa20x13.heap.size from HBwa20x13.out.size)
                    rw [hwa20x18]
                    clear hwa20x18
                    refine hK.out _ _ ?_ (fun hHeld => ?_)
                    · exact HKB6.out _ HBwa20x18.out
                    clear hK K
                    try simp only [Act.put, List.getElem_toArray, List.getElem_cons_succ, List.getElem_cons_zero, List.setIfInBounds_toArray, List.set_cons_zero, List.set_cons_succ]
                    refine wpAnyH_ready (rs := [8]) (by kernel_rfl) (by simp) (AllReadyH.cons rfl (fun K hK => ?_) AllReadyH.nil)
                    go_simp
                    go_at_call 10
                    refine (HS20.out wa20x18 _ HBwa20x18.out HKwa20x18.out).mono ?_
                    rintro e ws20x19 ⟨rfl, hby⟩
                    have HBws20x19 := Lib.hid (HBwa20x18.out.trans (hby.mono HBwa20x18.out.size))
                    have HKws20x19 := Lib.hid (hby.block _ (Array.getElem?_eq_some_iff.1 HKwa20x18.out).1 |>.trans HKwa20x18.out)
                    have HCws20x19 := Lib.hid (hby.block _ (Array.getElem?_eq_some_iff.1 HCwa20x18.out).1 |>.trans HCwa20x18.out)
                    clear hby
                    try (go_wp2_with fail)
                    refine hK.out _ _ ?_ (fun hHeld => ?_)
                    · exact HKB6.out _ HBws20x19.out
                    clear hK K
                    try simp only [Act.put, List.getElem_toArray, List.getElem_cons_succ, List.getElem_cons_zero, List.setIfInBounds_toArray, List.set_cons_zero, List.set_cons_succ]
                    refine wpAnyH_take (i := 9) (v := ?_) rfl (by kernel_rfl) (by kernel_rfl) (by kernel_rfl) (fun _ _ _ h => h) (Or.inl ⟨by rfl, ?hy⟩) (by assumption) ?_
                    case hy => intro w hSw; (try dsimp only at hSw); go_simp; try with_reducible rfl
                    try simp only [Act.put, List.getElem_toArray, List.getElem_cons_succ, List.getElem_cons_zero, List.setIfInBounds_toArray, List.set_cons_zero, List.set_cons_succ]
                    refine wpAnyH_take (i := 10) (v := ?_) rfl (by kernel_rfl) (by kernel_rfl) (by kernel_rfl) (fun _ _ _ h => h) (Or.inl ⟨by rfl, ?hy⟩) (by assumption) ?_
                    case hy => intro w hSw; (try dsimp only at hSw); go_simp; try with_reducible rfl
                    try simp only [Act.put, List.getElem_toArray, List.getElem_cons_succ, List.getElem_cons_zero, List.setIfInBounds_toArray, List.set_cons_zero, List.set_cons_succ]
                    refine wpAnyH_take (i := 11) (v := ?_) rfl (by kernel_rfl) (by kernel_rfl) (by kernel_rfl) (fun _ _ _ h => h) (Or.inl ⟨by rfl, ?hy⟩) (by assumption) ?_
                    case hy => intro w hSw; (try dsimp only at hSw); go_simp; try with_reducible rfl
                    try simp only [Act.put, List.getElem_toArray, List.getElem_cons_succ, List.getElem_cons_zero, List.setIfInBounds_toArray, List.set_cons_zero, List.set_cons_succ]
                    refine wpAnyH_take (i := 12) (v := ?_) rfl (by kernel_rfl) (by kernel_rfl) (by kernel_rfl) (fun _ _ _ h => h) (Or.inl ⟨by rfl, ?hy⟩) (by assumption) ?_
                    case hy => intro w hSw; (try dsimp only at hSw); go_simp; try with_reducible rfl
                    try simp only [Act.put, List.getElem_toArray, List.getElem_cons_succ, List.getElem_cons_zero, List.setIfInBounds_toArray, List.set_cons_zero, List.set_cons_succ]
                    refine wpAnyH_ready (rs := [14]) (by kernel_rfl) (by simp) (AllReadyH.cons rfl (fun K hK => ?_) AllReadyH.nil)
                    obtain ⟨⟨z0, z1, z2, z3, z4, z5⟩, zf⟩ := ct_cells (c := .zero) HCws20x19.out
                    dsimp only [CntS.zero] at z0 z1 z2 z3 z4 z5
                    go_simp
                    have HF20 := Lib.hid (fin_set HBws20x19.out HG20.out HCws20x19.out xp xb xd xe xr xm)
                    refine hK.out _ _ ?_ (fun hHeld => ?_)
                    · exact HKB6.out _ HF20.out.2.2
                    clear hK K
                    try simp only [Act.put, List.getElem_toArray, List.getElem_cons_succ, List.getElem_cons_zero, List.setIfInBounds_toArray, List.set_cons_zero, List.set_cons_succ]
                    refine wpAnyH_take (i := 15) (v := ?_) rfl (by kernel_rfl) (by kernel_rfl) (by kernel_rfl) (fun _ _ _ h => h) (Or.inl ⟨by rfl, ?hy⟩) (by assumption) ?_
                    case hy => intro w hSw; (try dsimp only at hSw); go_simp; try with_reducible rfl
                    try simp only [Act.put, List.getElem_toArray, List.getElem_cons_succ, List.getElem_cons_zero, List.setIfInBounds_toArray, List.set_cons_zero, List.set_cons_succ]
                    refine wpAnyH_take (i := 16) (v := ?_) rfl (by kernel_rfl) (by kernel_rfl) (by kernel_rfl) (fun _ _ _ h => h) (Or.inl ⟨by rfl, ?hy⟩) (by assumption) ?_
                    case hy => intro w hSw; (try dsimp only at hSw); go_simp; try with_reducible rfl
                    try simp only [Act.put, List.getElem_toArray, List.getElem_cons_succ, List.getElem_cons_zero, List.setIfInBounds_toArray, List.set_cons_zero, List.set_cons_succ]
                    refine wpAnyH_done (by kernel_rfl) ?_ _
                    refine NoPanic.normal ?_
                    try (go_wp2_with fail)
                    go_meet
                    exact ⟨_, rfl, rfl, rfl, HF20⟩
                · go_simp
                  try (go_wp2_with fail)
                  obtain ⟨wa20x21, hwa20x21⟩ : ∃ x, wa20x13.alloc (.cells #[.int .i64 0, .int .i64 0, .int .i64 0, .int .i64 0, .int .i64 0, .int .i64 0] 32) = x := ⟨_, rfl⟩
                  have HAwa20x21 := Lib.hid (show Below wa20x13.heap.size wa20x13 wa20x21 from by rw [← hwa20x21]; exact (Below.refl _ _).alloc (Nat.le_refl _) _)
                  have HNwa20x21 := Lib.hid (show wa20x21.heap[wa20x13.heap.size]? = some (.cells #[.int .i64 0, .int .i64 0, .int .i64 0, .int .i64 0, .int .i64 0, .int .i64 0] 32) from by rw [← hwa20x21]; exact new_blockS wa20x13 _)
                  have HBwa20x21 := Lib.hid (HBwa20x13.out.trans (HAwa20x21.out.mono HBwa20x13.out.size))
                  have HKwa20x21 := Lib.hid (HAwa20x21.out.block _ (Array.getElem?_eq_some_iff.1 HKwa20x13.out).1 |>.trans HKwa20x13.out)
                  have HCwa20x21 := HNwa20x21
                  have HG20 := Lib.hid (show w6.heap.size ≤ wa20x13.heap.size from HBwa20x13.out.size)
                  rw [hwa20x21]
                  clear hwa20x21
                  refine hK.out _ _ ?_ (fun hHeld => ?_)
                  · exact HKB6.out _ HBwa20x21.out
                  clear hK K
                  try simp only [Act.put, List.getElem_toArray, List.getElem_cons_succ, List.getElem_cons_zero, List.setIfInBounds_toArray, List.set_cons_zero, List.set_cons_succ]
                  refine wpAnyH_ready (rs := [2]) (by kernel_rfl) (by simp) (AllReadyH.cons rfl (fun K hK => ?_) AllReadyH.nil)
                  go_simp
                  go_at_call 11
                  refine (HL20.out wa20x21 HBwa20x21.out).mono ?_
                  rintro e wl22 ⟨rfl, hq⟩
                  rw [hq]
                  clear hq
                  try (go_wp2_with fail)
                  refine hK.out _ _ ?_ (fun hHeld => ?_)
                  · exact HKB6.out _ HBwa20x21.out
                  clear hK K
                  try simp only [Act.put, List.getElem_toArray, List.getElem_cons_succ, List.getElem_cons_zero, List.setIfInBounds_toArray, List.set_cons_zero, List.set_cons_succ]
                  refine wpAnyH_ready (rs := [8]) (by kernel_rfl) (by simp) (AllReadyH.cons rfl (fun K hK => ?_) AllReadyH.nil)
                  go_simp
                  go_at_call 10
                  refine (HS20.out wa20x21 _ HBwa20x21.out HKwa20x21.out).mono ?_
                  rintro e ws20x23 ⟨rfl, hby⟩
                  have HBws20x23 := Lib.hid (HBwa20x21.out.trans (hby.mono HBwa20x21.out.size))
                  have HKws20x23 := Lib.hid (hby.block _ (Array.getElem?_eq_some_iff.1 HKwa20x21.out).1 |>.trans HKwa20x21.out)
                  have HCws20x23 := Lib.hid (hby.block _ (Array.getElem?_eq_some_iff.1 HCwa20x21.out).1 |>.trans HCwa20x21.out)
                  clear hby
                  try (go_wp2_with fail)
                  refine hK.out _ _ ?_ (fun hHeld => ?_)
                  · exact HKB6.out _ HBws20x23.out
                  clear hK K
                  try simp only [Act.put, List.getElem_toArray, List.getElem_cons_succ, List.getElem_cons_zero, List.setIfInBounds_toArray, List.set_cons_zero, List.set_cons_succ]
                  refine wpAnyH_take (i := 9) (v := ?_) rfl (by kernel_rfl) (by kernel_rfl) (by kernel_rfl) (fun _ _ _ h => h) (Or.inl ⟨by rfl, ?hy⟩) (by assumption) ?_
                  case hy => intro w hSw; (try dsimp only at hSw); go_simp; try with_reducible rfl
                  try simp only [Act.put, List.getElem_toArray, List.getElem_cons_succ, List.getElem_cons_zero, List.setIfInBounds_toArray, List.set_cons_zero, List.set_cons_succ]
                  refine wpAnyH_take (i := 10) (v := ?_) rfl (by kernel_rfl) (by kernel_rfl) (by kernel_rfl) (fun _ _ _ h => h) (Or.inl ⟨by rfl, ?hy⟩) (by assumption) ?_
                  case hy => intro w hSw; (try dsimp only at hSw); go_simp; try with_reducible rfl
                  try simp only [Act.put, List.getElem_toArray, List.getElem_cons_succ, List.getElem_cons_zero, List.setIfInBounds_toArray, List.set_cons_zero, List.set_cons_succ]
                  refine wpAnyH_take (i := 11) (v := ?_) rfl (by kernel_rfl) (by kernel_rfl) (by kernel_rfl) (fun _ _ _ h => h) (Or.inl ⟨by rfl, ?hy⟩) (by assumption) ?_
                  case hy => intro w hSw; (try dsimp only at hSw); go_simp; try with_reducible rfl
                  try simp only [Act.put, List.getElem_toArray, List.getElem_cons_succ, List.getElem_cons_zero, List.setIfInBounds_toArray, List.set_cons_zero, List.set_cons_succ]
                  refine wpAnyH_take (i := 12) (v := ?_) rfl (by kernel_rfl) (by kernel_rfl) (by kernel_rfl) (fun _ _ _ h => h) (Or.inl ⟨by rfl, ?hy⟩) (by assumption) ?_
                  case hy => intro w hSw; (try dsimp only at hSw); go_simp; try with_reducible rfl
                  try simp only [Act.put, List.getElem_toArray, List.getElem_cons_succ, List.getElem_cons_zero, List.setIfInBounds_toArray, List.set_cons_zero, List.set_cons_succ]
                  refine wpAnyH_ready (rs := [14]) (by kernel_rfl) (by simp) (AllReadyH.cons rfl (fun K hK => ?_) AllReadyH.nil)
                  obtain ⟨⟨z0, z1, z2, z3, z4, z5⟩, zf⟩ := ct_cells (c := .zero) HCws20x23.out
                  dsimp only [CntS.zero] at z0 z1 z2 z3 z4 z5
                  go_simp
                  have HF20 := Lib.hid (fin_set HBws20x23.out HG20.out HCws20x23.out xp xb xd xe xr xm)
                  refine hK.out _ _ ?_ (fun hHeld => ?_)
                  · exact HKB6.out _ HF20.out.2.2
                  clear hK K
                  try simp only [Act.put, List.getElem_toArray, List.getElem_cons_succ, List.getElem_cons_zero, List.setIfInBounds_toArray, List.set_cons_zero, List.set_cons_succ]
                  refine wpAnyH_take (i := 15) (v := ?_) rfl (by kernel_rfl) (by kernel_rfl) (by kernel_rfl) (fun _ _ _ h => h) (Or.inl ⟨by rfl, ?hy⟩) (by assumption) ?_
                  case hy => intro w hSw; (try dsimp only at hSw); go_simp; try with_reducible rfl
                  try simp only [Act.put, List.getElem_toArray, List.getElem_cons_succ, List.getElem_cons_zero, List.setIfInBounds_toArray, List.set_cons_zero, List.set_cons_succ]
                  refine wpAnyH_take (i := 16) (v := ?_) rfl (by kernel_rfl) (by kernel_rfl) (by kernel_rfl) (fun _ _ _ h => h) (Or.inl ⟨by rfl, ?hy⟩) (by assumption) ?_
                  case hy => intro w hSw; (try dsimp only at hSw); go_simp; try with_reducible rfl
                  try simp only [Act.put, List.getElem_toArray, List.getElem_cons_succ, List.getElem_cons_zero, List.setIfInBounds_toArray, List.set_cons_zero, List.set_cons_succ]
                  refine wpAnyH_done (by kernel_rfl) ?_ _
                  refine NoPanic.normal ?_
                  try (go_wp2_with fail)
                  go_meet
                  exact ⟨_, rfl, rfl, rfl, HF20⟩
              · go_simp
                try (go_wp2_with fail)
                obtain ⟨wa20x25, hwa20x25⟩ : ∃ x, wd20.alloc (.cells #[.int .i64 0, .int .i64 0, .int .i64 0, .int .i64 0, .int .i64 0, .int .i64 0] 32) = x := ⟨_, rfl⟩
                have HAwa20x25 := Lib.hid (show Below wd20.heap.size wd20 wa20x25 from by rw [← hwa20x25]; exact (Below.refl _ _).alloc (Nat.le_refl _) _)
                have HNwa20x25 := Lib.hid (show wa20x25.heap[wd20.heap.size]? = some (.cells #[.int .i64 0, .int .i64 0, .int .i64 0, .int .i64 0, .int .i64 0, .int .i64 0] 32) from by rw [← hwa20x25]; exact new_blockS wd20 _)
                have HBwa20x25 := Lib.hid (HBwd20.out.trans (HAwa20x25.out.mono HBwd20.out.size))
                have HCwa20x25 := HNwa20x25
                have HG20 := Lib.hid (show w6.heap.size ≤ wd20.heap.size from HBwd20.out.size)
                rw [hwa20x25]
                clear hwa20x25
                refine hK.out _ _ ?_ (fun hHeld => ?_)
                · exact HKB6.out _ HBwa20x25.out
                clear hK K
                try simp only [Act.put, List.getElem_toArray, List.getElem_cons_succ, List.getElem_cons_zero, List.setIfInBounds_toArray, List.set_cons_zero, List.set_cons_succ]
                refine wpAnyH_ready (rs := [2, 7]) (by kernel_rfl) (by simp) (AllReadyH.cons rfl (fun K hK => ?_) (AllReadyH.cons rfl (fun K hK => ?_) AllReadyH.nil))
                · go_simp
                  go_at_call 11
                  refine (HL20.out wa20x25 HBwa20x25.out).mono ?_
                  rintro e wl26 ⟨rfl, hq⟩
                  rw [hq]
                  clear hq
                  try (go_wp2_with fail)
                  refine hK.out _ _ ?_ (fun hHeld => ?_)
                  · exact HKB6.out _ HBwa20x25.out
                  clear hK K
                  try simp only [Act.put, List.getElem_toArray, List.getElem_cons_succ, List.getElem_cons_zero, List.setIfInBounds_toArray, List.set_cons_zero, List.set_cons_succ]
                  refine wpAnyH_ready (rs := [7]) (by kernel_rfl) (by simp) (AllReadyH.cons rfl (fun K hK => ?_) AllReadyH.nil)
                  go_simp
                  try (go_wp2_with fail)
                  obtain ⟨wa20x27, hwa20x27⟩ : ∃ x, wa20x25.alloc (.cells #[.int .u8 kind, .string qctx, .string qres, .string qorg] 30) = x := ⟨_, rfl⟩
                  have HAwa20x27 := Lib.hid (show Below wa20x25.heap.size wa20x25 wa20x27 from by rw [← hwa20x27]; exact (Below.refl _ _).alloc (Nat.le_refl _) _)
                  have HNwa20x27 := Lib.hid (show wa20x27.heap[wa20x25.heap.size]? = some (.cells #[.int .u8 kind, .string qctx, .string qres, .string qorg] 30) from by rw [← hwa20x27]; exact new_blockS wa20x25 _)
                  have HBwa20x27 := Lib.hid (HBwa20x25.out.trans (HAwa20x27.out.mono HBwa20x25.out.size))
                  have HCwa20x27 := Lib.hid (HAwa20x27.out.block _ (Array.getElem?_eq_some_iff.1 HCwa20x25.out).1 |>.trans HCwa20x25.out)
                  have HKwa20x27 := HNwa20x27
                  rw [hwa20x27]
                  clear hwa20x27
                  refine hK.out _ _ ?_ (fun hHeld => ?_)
                  · exact HKB6.out _ HBwa20x27.out
                  clear hK K
                  try simp only [Act.put, List.getElem_toArray, List.getElem_cons_succ, List.getElem_cons_zero, List.setIfInBounds_toArray, List.set_cons_zero, List.set_cons_succ]
                  refine wpAnyH_ready (rs := [8]) (by kernel_rfl) (by simp) (AllReadyH.cons rfl (fun K hK => ?_) AllReadyH.nil)
                  go_simp
                  go_at_call 10
                  refine (HS20.out wa20x27 _ HBwa20x27.out HKwa20x27.out).mono ?_
                  rintro e ws20x28 ⟨rfl, hby⟩
                  have HBws20x28 := Lib.hid (HBwa20x27.out.trans (hby.mono HBwa20x27.out.size))
                  have HKws20x28 := Lib.hid (hby.block _ (Array.getElem?_eq_some_iff.1 HKwa20x27.out).1 |>.trans HKwa20x27.out)
                  have HCws20x28 := Lib.hid (hby.block _ (Array.getElem?_eq_some_iff.1 HCwa20x27.out).1 |>.trans HCwa20x27.out)
                  clear hby
                  try (go_wp2_with fail)
                  refine hK.out _ _ ?_ (fun hHeld => ?_)
                  · exact HKB6.out _ HBws20x28.out
                  clear hK K
                  try simp only [Act.put, List.getElem_toArray, List.getElem_cons_succ, List.getElem_cons_zero, List.setIfInBounds_toArray, List.set_cons_zero, List.set_cons_succ]
                  refine wpAnyH_take (i := 9) (v := ?_) rfl (by kernel_rfl) (by kernel_rfl) (by kernel_rfl) (fun _ _ _ h => h) (Or.inl ⟨by rfl, ?hy⟩) (by assumption) ?_
                  case hy => intro w hSw; (try dsimp only at hSw); go_simp; try with_reducible rfl
                  try simp only [Act.put, List.getElem_toArray, List.getElem_cons_succ, List.getElem_cons_zero, List.setIfInBounds_toArray, List.set_cons_zero, List.set_cons_succ]
                  refine wpAnyH_take (i := 10) (v := ?_) rfl (by kernel_rfl) (by kernel_rfl) (by kernel_rfl) (fun _ _ _ h => h) (Or.inl ⟨by rfl, ?hy⟩) (by assumption) ?_
                  case hy => intro w hSw; (try dsimp only at hSw); go_simp; try with_reducible rfl
                  try simp only [Act.put, List.getElem_toArray, List.getElem_cons_succ, List.getElem_cons_zero, List.setIfInBounds_toArray, List.set_cons_zero, List.set_cons_succ]
                  refine wpAnyH_take (i := 11) (v := ?_) rfl (by kernel_rfl) (by kernel_rfl) (by kernel_rfl) (fun _ _ _ h => h) (Or.inl ⟨by rfl, ?hy⟩) (by assumption) ?_
                  case hy => intro w hSw; (try dsimp only at hSw); go_simp; try with_reducible rfl
                  try simp only [Act.put, List.getElem_toArray, List.getElem_cons_succ, List.getElem_cons_zero, List.setIfInBounds_toArray, List.set_cons_zero, List.set_cons_succ]
                  refine wpAnyH_take (i := 12) (v := ?_) rfl (by kernel_rfl) (by kernel_rfl) (by kernel_rfl) (fun _ _ _ h => h) (Or.inl ⟨by rfl, ?hy⟩) (by assumption) ?_
                  case hy => intro w hSw; (try dsimp only at hSw); go_simp; try with_reducible rfl
                  try simp only [Act.put, List.getElem_toArray, List.getElem_cons_succ, List.getElem_cons_zero, List.setIfInBounds_toArray, List.set_cons_zero, List.set_cons_succ]
                  refine wpAnyH_ready (rs := [14]) (by kernel_rfl) (by simp) (AllReadyH.cons rfl (fun K hK => ?_) AllReadyH.nil)
                  obtain ⟨⟨z0, z1, z2, z3, z4, z5⟩, zf⟩ := ct_cells (c := .zero) HCws20x28.out
                  dsimp only [CntS.zero] at z0 z1 z2 z3 z4 z5
                  go_simp
                  have HF20 := Lib.hid (fin_set HBws20x28.out HG20.out HCws20x28.out xp xb xd xe xr xm)
                  refine hK.out _ _ ?_ (fun hHeld => ?_)
                  · exact HKB6.out _ HF20.out.2.2
                  clear hK K
                  try simp only [Act.put, List.getElem_toArray, List.getElem_cons_succ, List.getElem_cons_zero, List.setIfInBounds_toArray, List.set_cons_zero, List.set_cons_succ]
                  refine wpAnyH_take (i := 15) (v := ?_) rfl (by kernel_rfl) (by kernel_rfl) (by kernel_rfl) (fun _ _ _ h => h) (Or.inl ⟨by rfl, ?hy⟩) (by assumption) ?_
                  case hy => intro w hSw; (try dsimp only at hSw); go_simp; try with_reducible rfl
                  try simp only [Act.put, List.getElem_toArray, List.getElem_cons_succ, List.getElem_cons_zero, List.setIfInBounds_toArray, List.set_cons_zero, List.set_cons_succ]
                  refine wpAnyH_take (i := 16) (v := ?_) rfl (by kernel_rfl) (by kernel_rfl) (by kernel_rfl) (fun _ _ _ h => h) (Or.inl ⟨by rfl, ?hy⟩) (by assumption) ?_
                  case hy => intro w hSw; (try dsimp only at hSw); go_simp; try with_reducible rfl
                  try simp only [Act.put, List.getElem_toArray, List.getElem_cons_succ, List.getElem_cons_zero, List.setIfInBounds_toArray, List.set_cons_zero, List.set_cons_succ]
                  refine wpAnyH_done (by kernel_rfl) ?_ _
                  refine NoPanic.normal ?_
                  try (go_wp2_with fail)
                  go_meet
                  exact ⟨_, rfl, rfl, rfl, HF20⟩
                · go_simp
                  try (go_wp2_with fail)
                  obtain ⟨wa20x30, hwa20x30⟩ : ∃ x, wa20x25.alloc (.cells #[.int .u8 kind, .string qctx, .string qres, .string qorg] 30) = x := ⟨_, rfl⟩
                  have HAwa20x30 := Lib.hid (show Below wa20x25.heap.size wa20x25 wa20x30 from by rw [← hwa20x30]; exact (Below.refl _ _).alloc (Nat.le_refl _) _)
                  have HNwa20x30 := Lib.hid (show wa20x30.heap[wa20x25.heap.size]? = some (.cells #[.int .u8 kind, .string qctx, .string qres, .string qorg] 30) from by rw [← hwa20x30]; exact new_blockS wa20x25 _)
                  have HBwa20x30 := Lib.hid (HBwa20x25.out.trans (HAwa20x30.out.mono HBwa20x25.out.size))
                  have HCwa20x30 := Lib.hid (HAwa20x30.out.block _ (Array.getElem?_eq_some_iff.1 HCwa20x25.out).1 |>.trans HCwa20x25.out)
                  have HKwa20x30 := HNwa20x30
                  rw [hwa20x30]
                  clear hwa20x30
                  refine hK.out _ _ ?_ (fun hHeld => ?_)
                  · exact HKB6.out _ HBwa20x30.out
                  clear hK K
                  try simp only [Act.put, List.getElem_toArray, List.getElem_cons_succ, List.getElem_cons_zero, List.setIfInBounds_toArray, List.set_cons_zero, List.set_cons_succ]
                  refine wpAnyH_ready (rs := [2]) (by kernel_rfl) (by simp) (AllReadyH.cons rfl (fun K hK => ?_) AllReadyH.nil)
                  go_simp
                  go_at_call 11
                  refine (HL20.out wa20x30 HBwa20x30.out).mono ?_
                  rintro e wl31 ⟨rfl, hq⟩
                  rw [hq]
                  clear hq
                  try (go_wp2_with fail)
                  refine hK.out _ _ ?_ (fun hHeld => ?_)
                  · exact HKB6.out _ HBwa20x30.out
                  clear hK K
                  try simp only [Act.put, List.getElem_toArray, List.getElem_cons_succ, List.getElem_cons_zero, List.setIfInBounds_toArray, List.set_cons_zero, List.set_cons_succ]
                  refine wpAnyH_ready (rs := [8]) (by kernel_rfl) (by simp) (AllReadyH.cons rfl (fun K hK => ?_) AllReadyH.nil)
                  go_simp
                  go_at_call 10
                  refine (HS20.out wa20x30 _ HBwa20x30.out HKwa20x30.out).mono ?_
                  rintro e ws20x32 ⟨rfl, hby⟩
                  have HBws20x32 := Lib.hid (HBwa20x30.out.trans (hby.mono HBwa20x30.out.size))
                  have HKws20x32 := Lib.hid (hby.block _ (Array.getElem?_eq_some_iff.1 HKwa20x30.out).1 |>.trans HKwa20x30.out)
                  have HCws20x32 := Lib.hid (hby.block _ (Array.getElem?_eq_some_iff.1 HCwa20x30.out).1 |>.trans HCwa20x30.out)
                  clear hby
                  try (go_wp2_with fail)
                  refine hK.out _ _ ?_ (fun hHeld => ?_)
                  · exact HKB6.out _ HBws20x32.out
                  clear hK K
                  try simp only [Act.put, List.getElem_toArray, List.getElem_cons_succ, List.getElem_cons_zero, List.setIfInBounds_toArray, List.set_cons_zero, List.set_cons_succ]
                  refine wpAnyH_take (i := 9) (v := ?_) rfl (by kernel_rfl) (by kernel_rfl) (by kernel_rfl) (fun _ _ _ h => h) (Or.inl ⟨by rfl, ?hy⟩) (by assumption) ?_
                  case hy => intro w hSw; (try dsimp only at hSw); go_simp; try with_reducible rfl
                  try simp only [Act.put, List.getElem_toArray, List.getElem_cons_succ, List.getElem_cons_zero, List.setIfInBounds_toArray, List.set_cons_zero, List.set_cons_succ]
                  refine wpAnyH_take (i := 10) (v := ?_) rfl (by kernel_rfl) (by kernel_rfl) (by kernel_rfl) (fun _ _ _ h => h) (Or.inl ⟨by rfl, ?hy⟩) (by assumption) ?_
                  case hy => intro w hSw; (try dsimp only at hSw); go_simp; try with_reducible rfl
                  try simp only [Act.put, List.getElem_toArray, List.getElem_cons_succ, List.getElem_cons_zero, List.setIfInBounds_toArray, List.set_cons_zero, List.set_cons_succ]
                  refine wpAnyH_take (i := 11) (v := ?_) rfl (by kernel_rfl) (by kernel_rfl) (by kernel_rfl) (fun _ _ _ h => h) (Or.inl ⟨by rfl, ?hy⟩) (by assumption) ?_
                  case hy => intro w hSw; (try dsimp only at hSw); go_simp; try with_reducible rfl
                  try simp only [Act.put, List.getElem_toArray, List.getElem_cons_succ, List.getElem_cons_zero, List.setIfInBounds_toArray, List.set_cons_zero, List.set_cons_succ]
                  refine wpAnyH_take (i := 12) (v := ?_) rfl (by kernel_rfl) (by kernel_rfl) (by kernel_rfl) (fun _ _ _ h => h) (Or.inl ⟨by rfl, ?hy⟩) (by assumption) ?_
                  case hy => intro w hSw; (try dsimp only at hSw); go_simp; try with_reducible rfl
                  try simp only [Act.put, List.getElem_toArray, List.getElem_cons_succ, List.getElem_cons_zero, List.setIfInBounds_toArray, List.set_cons_zero, List.set_cons_succ]
                  refine wpAnyH_ready (rs := [14]) (by kernel_rfl) (by simp) (AllReadyH.cons rfl (fun K hK => ?_) AllReadyH.nil)
                  obtain ⟨⟨z0, z1, z2, z3, z4, z5⟩, zf⟩ := ct_cells (c := .zero) HCws20x32.out
                  dsimp only [CntS.zero] at z0 z1 z2 z3 z4 z5
                  go_simp
                  have HF20 := Lib.hid (fin_set HBws20x32.out HG20.out HCws20x32.out xp xb xd xe xr xm)
                  refine hK.out _ _ ?_ (fun hHeld => ?_)
                  · exact HKB6.out _ HF20.out.2.2
                  clear hK K
                  try simp only [Act.put, List.getElem_toArray, List.getElem_cons_succ, List.getElem_cons_zero, List.setIfInBounds_toArray, List.set_cons_zero, List.set_cons_succ]
                  refine wpAnyH_take (i := 15) (v := ?_) rfl (by kernel_rfl) (by kernel_rfl) (by kernel_rfl) (fun _ _ _ h => h) (Or.inl ⟨by rfl, ?hy⟩) (by assumption) ?_
                  case hy => intro w hSw; (try dsimp only at hSw); go_simp; try with_reducible rfl
                  try simp only [Act.put, List.getElem_toArray, List.getElem_cons_succ, List.getElem_cons_zero, List.setIfInBounds_toArray, List.set_cons_zero, List.set_cons_succ]
                  refine wpAnyH_take (i := 16) (v := ?_) rfl (by kernel_rfl) (by kernel_rfl) (by kernel_rfl) (fun _ _ _ h => h) (Or.inl ⟨by rfl, ?hy⟩) (by assumption) ?_
                  case hy => intro w hSw; (try dsimp only at hSw); go_simp; try with_reducible rfl
                  try simp only [Act.put, List.getElem_toArray, List.getElem_cons_succ, List.getElem_cons_zero, List.setIfInBounds_toArray, List.set_cons_zero, List.set_cons_succ]
                  refine wpAnyH_done (by kernel_rfl) ?_ _
                  refine NoPanic.normal ?_
                  try (go_wp2_with fail)
                  go_meet
                  exact ⟨_, rfl, rfl, rfl, HF20⟩
            case rest =>
              obtain ⟨B2, rfl, rfl, rfl, HC2⟩ := hcut
              obtain ⟨w7, hw7⟩ : ∃ x, x = wc := ⟨_, rfl⟩
              rw [← hw7] at HC2
              simp only [← hw7]
              clear hw7 HL20 HS20 e0 e1 e2 e3
              obtain ⟨d0, d1, d2, d3⟩ := HKA6.out w7 HC2.out.2.2
              obtain ⟨e0, e1, e2, e3⟩ := HKB6.out w7 HC2.out.2.2
              have hb1 := (HC2.out.2.2.block B1 (Array.getElem?_eq_some_iff.1 HC1.out.2.1).1).trans HC1.out.2.1
              obtain ⟨⟨x0, x1, x2, x3, x4, x5⟩, _⟩ := ct_cells (c := ⟨xp, xb, xd, xe, xr, xm⟩) hb1
              obtain ⟨⟨y0, y1, y2, y3, y4, y5⟩, _⟩ := ct_cells (c := ⟨xp, xb, xd, xe, xr, xm⟩) HC2.out.2.1
              dsimp only at x0 x1 x2 x3 x4 x5 y0 y1 y2 y3 y4 y5
              have HB7 := Lib.hid (HBY.out.trans ((HC1.out.2.2.trans (HC2.out.2.2.mono HC1.out.2.2.size)).mono HBY.out.size))
              clear hb1
              go_wp2_with (fail)
              go_quiet (fail)
              go_wp2_with (fail)
              refine ⟨⟨i + 1, by omega, by go_num, Lib.hid (below_drewG HB7.out _)⟩, by first | (simp [intOf]; done) | (simp [intOf]; omega)⟩
        · have i1 : ¬ (i : Int) < nP := by omega
          have HFIN := Lib.hid (HB0.out.trans ((HT5.out.bel.trans (HBY.out.mono HT5.out.bel.size)).mono HB0.out.size))
          go_wp2_with (fail)
          go_ret
          exact ⟨rfl, HFIN.out⟩
theorem trown_law {w : World} (r : DeedsL) (h : DeedsAt w r) (atq : Int) (wq : (Lit.int .i64 atq).wf = true) :
    Calls Try.prog 4 #[r.v, .int .i64 atq] w fun e w' => e = .returned (.bool true) ∧ Below w.heap.size w w' := trown_walk h.l (by have := h.b; omega) h.row h.z atq
end Go.Proofs.Ytpbbidijnmooaaa
