/- tree: Touch of one call. -/
import Derived.Test.YtpbbidijnmooaaaTrI
namespace Go.Proofs.Ytpbbidijnmooaaa
open Go.RowKit
set_option linter.unusedVariables false
set_option linter.unusedSimpArgs false

structure TouchPost (w : World) (t : TreeV) (c : CallS) (e : Ending) (w' : World) : Prop where
  e : e = .returned (.int .i64 (touchE t.M c))
  no : touchE t.M c ≠ 0 → Below w.heap.size w w'
  yes : touchE t.M c = 0 → ∃ t', TGo w t w' t' ∧ t'.M = touchM t.M (keysL c) ∧ t'.last = t.last ∧ t'.top = t.top
theorem TouchPost.mkNo {w w' : World} {t : TreeV} {c : CallS} {e : Ending} {x : Int} (hE : touchE t.M c = x) (hx : x ≠ 0) (he : e = .returned (.int .i64 x)) (hb : Below w.heap.size w w') : TouchPost w t c e w' :=
  ⟨by rw [hE]; exact he, fun _ => hb, fun h0 => absurd (hE.symm.trans h0) hx⟩
structure TchI (w w4 wr : World) (t tj : TreeV) (LK : List KeyS) (a : Option Addr) (j : Nat) : Prop where
  k0 : TreeAt w t
  bel : Below w.heap.size w w4
  go : TGo w4 t wr tj
  m : tj.M = touchM t.M (LK.take j)
  last : tj.last = t.last
  top : tj.top = t.top
  kin : KeysAt w4 a LK
  kout : ∀ g, a = some ⟨g, 0, none⟩ → w.heap.size ≤ g
section
variable {w w4 wr : World} {t tj : TreeV} {LK : List KeyS} {a : Option Addr} {j : Nat}
theorem TchI.keys (k : TchI w w4 wr t tj LK a j) : KeysAt wr a LK := k.kin.off k.go.off (fun g e ho => by have := k.k0.lt ho; have := k.kout g e; omega)
theorem TchI.room (k : TchI w w4 wr t tj LK a j) {q : KeyS} (hn : LK.Nodup) (hq : LK[j]? = some q) (hf : (freshM t.M LK : Int) ≤ 512 - t.M.length) : findT tj.T q = none → tj.T.length < 512 := by
  intro h
  have hj := (List.getElem?_eq_some_iff.1 hq).1
  rw [← M_len]
  exact room_of (M := t.M) hn hq (by rw [k.m, touch_len t.M hn (by omega)]) (by rw [getM_findT, h]; rfl) (by rw [k.m, getM_touch_other (not_mem_take hn hq)]) hf
theorem TchI.made (k : TchI w w4 wr t tj LK a j) {wd w5 : World} {D : Nat} {q : KeyS} {t1 : TreeV} (hb : Below wr.heap.size wr wd) (hd : wd.heap[D]? = some (.cells #[.int .u8 q.kind, .string q.ctx, .string q.res, .string q.org] 30)) (hD : wr.heap.size ≤ D) (hq : LK[j]? = some q) (hg : TGo wd tj w5 t1) (hm : t1.M = addM tj.M q) (hl : t1.last = tj.last) (hp : t1.top = tj.top) :
    TchI w w4 w5 t t1 LK a (j + 1) ∧ w5.cell? ⟨D, 0, none⟩ = some (.int .u8 q.kind) ∧ w5.cell? ⟨D, 1, none⟩ = some (.string q.ctx) ∧ w5.cell? ⟨D, 2, none⟩ = some (.string q.res) ∧ w5.cell? ⟨D, 3, none⟩ = some (.string q.org) := by
  refine ⟨⟨k.k0, k.bel, (k.go.belowR hb).trans hg, by rw [hm, k.m, take_snocT hq, touchM_snoc], hl.trans k.last, hp.trans k.top, k.kin, k.kout⟩, four_box ((hg.off.block D (Array.getElem?_eq_some_iff.1 hd).1 (fun ho => by have := k.go.at_.lt ho; omega)).trans hd)⟩
end
/-- The first loop: one call's keys, or none yet. -/
def TchL (w w1 wr : World) (LK : List KeyS) (n : Nat) (x5 : Value) (j : Nat) : Prop :=
  (j = 0 ∧ x5 = .slice none 0 0 ∧ wr = w1) ∨ (j = 1 ∧ ∃ a c, x5 = .slice a n c ∧ wr.ownsRow w1.heap.size 30 4 (.slice a n c) n (LK.map KeyS.cs).flatten ∧ Below w1.heap.size w1 wr)

set_option maxHeartbeats 12800000 in
set_option maxRecDepth 100000 in
theorem ttouch_any {w : World} {t : TreeV} (k : TreeAt w t) (c : CallS) (z1 : c.res.size ≤ maxLen) (z2 : c.ctx.size ≤ maxLen) (z3 : c.org.size ≤ maxLen) (g0 cp0 : Nat) (hg : w.heap[g0]? = some (.cells c.c 40)) :
    Calls Try.prog 20 #[.pointer (some ⟨t.tb, 0, none⟩), .slice (some ⟨g0, 0, none⟩) 1 cp0] w (TouchPost w t c) := by
  have HBAD := Lib.hid (fun (wx : World) (h : namesB c = false) => keys_bad (w := wx) c z1 z2 z3 h)
  have HGOOD := Lib.hid (fun (wx : World) (h : namesB c = true) => keys_ok (w := wx) c z1 z2 z3 h)
  have HOK := Lib.hid (keysL_ok z1 z2 z3)
  have HND := Lib.hid (keysL_nodup c)
  have HFEW := Lib.hid (keysL_few c)
  have HEE := Lib.hid (fun (x : Int) (h : touchE t.M c = x) (hx : x ≠ 0) (wx : World) (hb : Below w.heap.size w wx) => TouchPost.mkNo h hx rfl hb)
  have HE0 := Lib.hid (show touchE t.M c = (if namesB c = false then 10 else if 512 - (t.M.length : Int) < freshM t.M (keysL c) then 3 else 0) from rfl)
  obtain ⟨LK, hLK⟩ : ∃ LK, keysL c = LK := ⟨_, rfl⟩
  obtain ⟨nB, hnm⟩ : ∃ b, namesB c = b := ⟨_, rfl⟩
  rw [hLK] at HOK HND HFEW HE0
  rw [hnm] at HE0
  have HLK := Lib.hid hLK
  have HNB := Lib.hid hnm
  have HK := Lib.hid k
  have HMT := Lib.hid (M_len t)
  have hfew := k.few
  obtain ⟨aR, capR, hvr⟩ := k.slice
  have hgl : g0 < w.heap.size := (Array.getElem?_eq_some_iff.1 hg).1
  have HYES := Lib.hid (fun (hE : touchE t.M c = 0) (w9 : World) (h : ∃ t', TGo w t w9 t' ∧ t'.M = touchM t.M LK ∧ t'.last = t.last ∧ t'.top = t.top) => (show TouchPost w t c (.returned (.int .i64 0)) w9 from ⟨by rw [hE], fun hne => absurd hE hne, fun _ => by rw [hLK]; exact h⟩))
  obtain ⟨at_, res, ctx, org, inb, cnt, aa, al, ac⟩ := c
  obtain ⟨tb, mb, vr, T, last, top⟩ := t
  dsimp only at hvr
  subst hvr
  unfold CallS.c at HBAD HGOOD hg
  dsimp only at HBAD HGOOD HE0 HMT hfew hg HYES ⊢
  obtain ⟨n0, hn0⟩ : ∃ n0, T.length = n0 := ⟨_, rfl⟩
  have hk1 := k.cells.2.1
  dsimp only at hk1
  rw [hn0] at hfew hk1
  have HN0 := Lib.hid hn0
  have HK1 := Lib.hid (fun (wx : World) (hx : Below w.heap.size w wx) => (hx.cell (World.block_lt_of_cell? _ _ hk1)).trans hk1)
  obtain ⟨q0, q1, q2, q3, q4, q5, q6⟩ := call_cells hg
  clear k hLK hnm hn0 hk1
  go_enter Try.func20, Try.ntmps20
  go_wp2_with (fail)
  obtain ⟨nK, hnK⟩ : ∃ nK, LK.length = nK := ⟨_, rfl⟩
  have HLN := Lib.hid hnK
  rw [hnK] at HFEW
  clear hnK
  go_loopw [5, 7, 8, 9, 16] (fun x5 _ _ _ x16 wr => ∃ (j : Nat), j ≤ 1 ∧ x16 = .int .i64 j ∧ Hid (j = 1 → nB = true) ∧ Hid (TchL w w wr LK nK x5 j)) (fun _ _ _ _ x16 _ => 1 - (intOf x16).toNat)
  case atStart => exact ⟨0, by omega, rfl, Lib.hid (by simp), Lib.hid (Or.inl ⟨rfl, rfl, rfl⟩)⟩
  case round =>
    rename World => wr
    obtain ⟨j, hj, rfl, HNT, HL⟩ := hrel
    rcases HL.out with ⟨rfl, rfl, hwr⟩ | ⟨rfl, aK, cK, rfl, hoK, hb2⟩
    · subst hwr
      clear HL HNT
      have halb : Below wr.heap.size wr (wr.alloc (.cells #[.int .i64 at_, .string res, .string ctx, .string org, .bool inb, .int .i64 cnt, .slice aa al ac] 40)) := (Below.refl _ _).alloc (Nat.le_refl _) _
      have hnb := new_blockS wr (.cells #[.int .i64 at_, .string res, .string ctx, .string org, .bool inb, .int .i64 cnt, .slice aa al ac] 40)
      obtain ⟨wd, hwd⟩ : ∃ wd, wr.alloc (.cells #[.int .i64 at_, .string res, .string ctx, .string org, .bool inb, .int .i64 cnt, .slice aa al ac] 40) = wd := ⟨_, rfl⟩
      rw [hwd] at halb hnb
      obtain ⟨r0, r1, r2, r3, r4, r5, r6⟩ := call_cells hnb
      have HAL := Lib.hid halb
      clear halb hnb
      go_wp2_with (fail)
      clear hwd
      cases nB with
      | false =>
        have HE := Lib.hid (HE0.out.trans (if_pos rfl))
        refine (HBAD.out _ HNB.out).mono ?_
        rintro e w2 ⟨rfl, hb2⟩
        go_wp2_with (fail)
        go_ret
        exact HEE.out 10 HE.out (by decide) _ (HAL.out.trans (hb2.mono HAL.out.size))
      | true =>
        refine (HGOOD.out _ HNB.out).mono ?_
        rintro e w2 ⟨vK, rfl, hoK, hb2⟩
        have hlk := HLK.out
        rw [hlk] at hoK
        obtain ⟨aK, capK, rfl⟩ := own_sliceT hoK
        rw [HLN.out] at hoK ⊢
        have HBW := Lib.hid (HAL.out.trans (hb2.mono HAL.out.size))
        have hk := keysAt_row hoK HLN.out
        have hlen : (LK.map KeyS.cs).flatten.length = nK * 4 := by rw [flatten_len (cs_len4 LK), List.length_map, HLN.out]
        have hn5 : nK ≤ 5 := HFEW.out
        obtain ⟨gK, rfl⟩ : ∃ gK, aK = some ⟨gK, 0, none⟩ := by
          rcases hk with h | ⟨gK, h, _⟩
          · exfalso; rw [h] at hlk; unfold keysL at hlk; simp at hlk
          · exact ⟨gK, h⟩
        have hnews : ∀ j u, (LK.map KeyS.cs).flatten[j]? = some u → w2.cell? ((⟨gK, 0, none⟩ : Addr).add j) = some u := fun j u hu => by
          have hj := (List.getElem?_eq_some_iff.1 hu).1
          rw [Go.WideShapes.add_plain, Nat.zero_add]
          exact (hoK.cellAt j (by omega)).trans hu
        obtain ⟨i0, hi, hz0, hz1, hz2⟩ := info_partsT info_keyT
        have HONE := Lib.hid (cs_oneT LK)
        obtain ⟨FL, hFL⟩ : ∃ FL, (LK.map KeyS.cs).flatten = FL := ⟨_, rfl⟩
        have HFL := Lib.hid hFL
        rw [hFL] at hlen hnews HONE
        clear hk hoK hlk hb2 hFL
        go_wp2_with (at_builtin; go_must (refine wpList_append_own _ rfl (.tmp 28) (.tmp 29) 26 (by rfl) wr.heap.size 30 i0 (.agg #[.int .u8 0, .string ⟨#[]⟩, .string ⟨#[]⟩, .string ⟨#[]⟩]) 4 56 Try.underlying26 hi hz0 hz1 hz2 (by rfl) (by decide) (.slice none 0 0) 0 [] (by rfl) (World.ownsRow_nil _ _ _ _) ⟨gK, 0, none⟩ nK capK FL (by rfl) hlen hnews HONE.out (by unfold maxLen; omega) (by omega) HBW.out.size ?_); intro v3 w3 hown3 hg3 _; obtain ⟨a3, c3, rfl⟩ := own_sliceT hown3; have HO3 := Lib.hid hown3; have HB3 := Lib.hid (HBW.out.grown hg3 HBW.out.size (fun k e => by simp [Value.ownBlock] at e)); clear hown3 hg3)
        refine ⟨⟨1, by omega, by go_num, Lib.hid (by first | trivial | (intro _; rfl) | simp), Lib.hid (Or.inr ⟨rfl, a3, c3, ?_, ?_, HB3.out⟩)⟩, by first | (simp [intOf]; done) | (simp [intOf]; omega)⟩
        · first | rfl | rw [Nat.zero_add]
        · have ho := HO3.out
          rw [Nat.zero_add, List.nil_append, ← HFL.out] at ho
          exact ho
    · obtain rfl : nB = true := HNT.out rfl
      have HE1 := Lib.hid (HE0.out.trans (if_neg (by simp)))
      have HOK2 := Lib.hid hoK
      have HB2 := Lib.hid hb2
      obtain ⟨w2, hw2⟩ : ∃ w2, w2 = wr := ⟨_, rfl⟩
      have HOK2 := Lib.hid (show w2.ownsRow w.heap.size 30 4 (.slice aK nK cK) nK (LK.map KeyS.cs).flatten by rw [hw2]; exact hoK)
      have HB2 := Lib.hid (show Below w.heap.size w w2 by rw [hw2]; exact hb2)
      rw [← hw2]
      clear HE0 HL HNT hoK hb2 hw2
      obtain ⟨M0, hM0⟩ : ∃ M0, (⟨tb, mb, .slice aR T.length capR, T, last, top⟩ : TreeV).M = M0 := ⟨_, rfl⟩
      obtain ⟨FM, hFM⟩ : ∃ FM, freshM M0 LK = FM := ⟨_, rfl⟩
      rw [hM0] at HE1 HMT HEE
      rw [hFM, HMT.out, HN0.out] at HE1
      have HM0 := Lib.hid hM0
      have HFM := Lib.hid hFM
      have HFR := Lib.hid (fun (wx : World) (hx : Below w2.heap.size w2 wx) => fresh_any (HK.out.below (HB2.out.trans (hx.mono HB2.out.size))) aK nK cK LK HLN.out (by have := HFEW.out; omega) HND.out HOK.out ((keysAt_row HOK2.out HLN.out).below hx))
      simp only [HM0.out, HFM.out] at HFR
      have HS12 := Lib.hid (fun (wx : World) (hx : Below w.heap.size w wx) => HK1.out wx hx)
      have hs12 := HS12.out w2 HB2.out
      have hw512 : IntKind.i64.wrap (512 - (n0 : Int)) = 512 - n0 := by rw [IntKind.wrap_i64]; omega
      clear hM0 hFM q0 q1 q2 q3 q4 q5 q6
      go_wp2_with (fail)
      refine wp_region_noPanic ?_
      refine wp_region_held_drew (S := (fun wx => wx.cell? ⟨tb, 1, none⟩ = some (.slice aR n0 capR))) (by kernel_rfl) ?_ (fun hHeld => ?_)
      · exact hs12
      refine wpAnyH_take (i := 0) (v := ?_) rfl (by kernel_rfl) (by kernel_rfl) (by kernel_rfl) (fun _ _ _ h => h) (Or.inl ⟨by rfl, ?hy⟩) (by assumption) ?_
      case hy => intro w hSw; (try dsimp only at hSw); go_simp; try with_reducible rfl
      try simp only [Act.put, List.getElem_toArray, List.getElem_cons_succ, List.getElem_cons_zero, List.setIfInBounds_toArray, List.set_cons_zero, List.set_cons_succ]
      refine wpAnyH_take (i := 1) (v := ?_) rfl (by kernel_rfl) (by kernel_rfl) (by kernel_rfl) (fun _ _ _ h => h) (Or.inl ⟨by rfl, ?hy⟩) (by assumption) ?_
      case hy => intro w hSw; (try dsimp only at hSw); go_simp; try with_reducible rfl
      try simp only [Act.put, List.getElem_toArray, List.getElem_cons_succ, List.getElem_cons_zero, List.setIfInBounds_toArray, List.set_cons_zero, List.set_cons_succ]
      refine wpAnyH_take (i := 2) (v := ?_) rfl (by kernel_rfl) (by kernel_rfl) (by kernel_rfl) (fun _ _ _ h => h) (Or.inl ⟨by rfl, ?hy⟩) (by assumption) ?_
      case hy => intro w hSw; (try dsimp only at hSw); go_simp; try with_reducible rfl
      try simp only [Act.put, List.getElem_toArray, List.getElem_cons_succ, List.getElem_cons_zero, List.setIfInBounds_toArray, List.set_cons_zero, List.set_cons_succ]
      refine wpAnyH_take (i := 3) (v := ?_) rfl (by kernel_rfl) (by kernel_rfl) (by kernel_rfl) (fun _ _ _ h => h) (Or.inl ⟨by rfl, ?hy⟩) (by assumption) ?_
      case hy => intro w hSw; (try dsimp only at hSw); go_simp; try with_reducible rfl
      try simp only [Act.put, List.getElem_toArray, List.getElem_cons_succ, List.getElem_cons_zero, List.setIfInBounds_toArray, List.set_cons_zero, List.set_cons_succ]
      refine wpAnyH_take (i := 5) (v := ?_) rfl (by kernel_rfl) (by kernel_rfl) (by kernel_rfl) (fun _ _ _ h => h) (Or.inl ⟨by rfl, ?hy⟩) (by assumption) ?_
      case hy => intro w hSw; (try dsimp only at hSw); go_simp; try with_reducible rfl
      try simp only [Act.put, List.getElem_toArray, List.getElem_cons_succ, List.getElem_cons_zero, List.setIfInBounds_toArray, List.set_cons_zero, List.set_cons_succ]
      refine wpAnyH_take (i := 6) (v := ?_) rfl (by kernel_rfl) (by kernel_rfl) (by kernel_rfl) (fun _ _ _ h => h) (Or.inl ⟨by rfl, ?hy⟩) (by assumption) ?_
      case hy => intro w hSw; (try dsimp only at hSw); go_simp; try with_reducible rfl
      try simp only [Act.put, List.getElem_toArray, List.getElem_cons_succ, List.getElem_cons_zero, List.setIfInBounds_toArray, List.set_cons_zero, List.set_cons_succ]
      refine wpAnyH_take (i := 7) (v := ?_) rfl (by kernel_rfl) (by kernel_rfl) (by kernel_rfl) (fun _ _ _ h => h) (Or.inl ⟨by rfl, ?hy⟩) (by assumption) ?_
      case hy => intro w hSw; (try dsimp only at hSw); go_simp; try with_reducible rfl
      try simp only [Act.put, List.getElem_toArray, List.getElem_cons_succ, List.getElem_cons_zero, List.setIfInBounds_toArray, List.set_cons_zero, List.set_cons_succ]
      refine wpAnyH_take (i := 8) (v := ?_) rfl (by kernel_rfl) (by kernel_rfl) (by kernel_rfl) (fun _ _ _ h => h) (Or.inl ⟨by rfl, ?hy⟩) (by assumption) ?_
      case hy => intro w hSw; (try dsimp only at hSw); go_simp; try with_reducible rfl
      try simp only [Act.put, List.getElem_toArray, List.getElem_cons_succ, List.getElem_cons_zero, List.setIfInBounds_toArray, List.set_cons_zero, List.set_cons_succ]
      refine wpAnyH_take (i := 9) (v := ?_) rfl (by kernel_rfl) (by kernel_rfl) (by kernel_rfl) (fun _ _ _ h => h) (Or.inl ⟨by rfl, ?hy⟩) (by assumption) ?_
      case hy => intro w hSw; (try dsimp only at hSw); go_simp; try with_reducible rfl
      try simp only [Act.put, List.getElem_toArray, List.getElem_cons_succ, List.getElem_cons_zero, List.setIfInBounds_toArray, List.set_cons_zero, List.set_cons_succ]
      refine wpAnyH_take (i := 10) (v := ?_) rfl (by kernel_rfl) (by kernel_rfl) (by kernel_rfl) (fun _ _ _ h => h) (Or.inl ⟨by rfl, ?hy⟩) (by assumption) ?_
      case hy => intro w hSw; (try dsimp only at hSw); go_simp; try with_reducible rfl
      try simp only [Act.put, List.getElem_toArray, List.getElem_cons_succ, List.getElem_cons_zero, List.setIfInBounds_toArray, List.set_cons_zero, List.set_cons_succ]
      refine wpAnyH_take (i := 11) (v := ?_) rfl (by kernel_rfl) (by kernel_rfl) (by kernel_rfl) (fun _ _ _ h => h) (Or.inl ⟨by rfl, ?hy⟩) (by assumption) ?_
      case hy => intro w hSw; (try dsimp only at hSw); go_simp; try with_reducible rfl
      try simp only [Act.put, List.getElem_toArray, List.getElem_cons_succ, List.getElem_cons_zero, List.setIfInBounds_toArray, List.set_cons_zero, List.set_cons_succ]
      refine wpAnyH_ready (rs := [4]) (by kernel_rfl) (by simp) (AllReadyH.cons rfl (fun K hK => ?_) AllReadyH.nil)
      go_simp
      go_at_call 39; refine (HFR.out _ (by first | exact below_drewG (Below.refl _ _) _ | exact (Below.refl _ _).drew)).mono ?_; rintro e w3 ⟨rfl, hb3⟩; have HB3 := Lib.hid (HB2.out.drew.trans (hb3.mono HB2.out.size)); have HB23 := Lib.hid ((Below.refl _ w2).drew.trans hb3); clear hb3
      try (go_wp2_with fail)
      refine hK.out _ _ ?_ (fun hHeld => ?_)
      · exact HS12.out _ HB3.out
      clear hK K
      try simp only [Act.put, List.getElem_toArray, List.getElem_cons_succ, List.getElem_cons_zero, List.setIfInBounds_toArray, List.set_cons_zero, List.set_cons_succ]
      refine wpAnyH_take (i := 12) (v := ?_) rfl (by kernel_rfl) (by kernel_rfl) (by kernel_rfl) (fun _ _ _ h => h) (Or.inl ⟨by rfl, ?hy⟩) (by assumption) ?_
      case hy => intro w hSw; (try dsimp only at hSw); go_simp; try with_reducible rfl
      try simp only [Act.put, List.getElem_toArray, List.getElem_cons_succ, List.getElem_cons_zero, List.setIfInBounds_toArray, List.set_cons_zero, List.set_cons_succ]
      refine wpAnyH_done (by kernel_rfl) ?_ _
      refine NoPanic.normal ?_
      clear hs12 hw512
      by_cases hfr : 512 - (n0 : Int) < FM
      · have HE := Lib.hid (HE1.out.trans (if_pos hfr))
        clear HE1
        go_wp2_with (fail)
        go_ret
        exact HEE.out 3 HE.out (by decide) _ HB3.out
      · have HE := Lib.hid (HE1.out.trans (if_neg hfr))
        have HFS := Lib.hid (show (freshM (⟨tb, mb, .slice aR T.length capR, T, last, top⟩ : TreeV).M LK : Int) ≤ 512 - (⟨tb, mb, .slice aR T.length capR, T, last, top⟩ : TreeV).M.length by
          rw [HM0.out, HFM.out, HMT.out, HN0.out]; omega)
        have HI0 := Lib.hid (show TchI w w3 w3 ⟨tb, mb, .slice aR T.length capR, T, last, top⟩ ⟨tb, mb, .slice aR T.length capR, T, last, top⟩ LK aK 0 from ⟨HK.out, HB3.out, TGo.refl (HK.out.below HB3.out), rfl, rfl, rfl, (keysAt_row HOK2.out HLN.out).below HB23.out, fun g e => (HOK2.out.lt g (by rw [e]; rfl)).1⟩)
        have HPOST := Lib.hid (HYES.out (by have h := HE.out; rw [← HM0.out] at h; exact h))
        rw [HN0.out] at HI0 HFS
        obtain ⟨w4, hw4⟩ : ∃ w4, w4 = w3 := ⟨_, rfl⟩
        rw [← hw4] at HI0 ⊢
        clear hw4 HE HB3 HB23 HE1
        go_wp2_with (fail)
        go_loopw [11, 47] (fun _ x47 wr => ∃ (j : Nat) (tj : TreeV), j ≤ nK ∧ x47 = .int .i64 j ∧ Hid (TchI w w4 wr ⟨tb, mb, .slice aR n0 capR, T, last, top⟩ tj LK aK j)) (fun _ x47 _ => nK - (intOf x47).toNat)
        case atStart => exact ⟨0, _, Nat.zero_le _, rfl, HI0⟩
        case round =>
          rename World => wr
          clear HI0
          obtain ⟨j, tj, hj, rfl, HI⟩ := hrel
          by_cases hlt : j < nK
          · have hjl : j < LK.length := by rw [HLN.out]; exact hlt
            obtain ⟨⟨kind, qctx, qres, qorg⟩, hq⟩ : ∃ q, LK[j]? = some q := ⟨_, List.getElem?_eq_getElem hjl⟩
            obtain ⟨gK, rfl, hgK, d0, d1, d2, d3⟩ := HI.out.keys.get hq
            have j0 : (0 : Int) ≤ j := by omega
            have j1 : (j : Int) < nK := by omega
            have hn5 : nK ≤ 5 := HFEW.out
            have HQ := Lib.hid hq
            have halb : Below wr.heap.size wr (wr.alloc (.cells #[.int .u8 kind, .string qctx, .string qres, .string qorg] 30)) := (Below.refl _ _).alloc (Nat.le_refl _) _
            have hnb := new_blockS wr (.cells #[.int .u8 kind, .string qctx, .string qres, .string qorg] 30)
            obtain ⟨wd, hwd⟩ : ∃ wd, wr.alloc (.cells #[.int .u8 kind, .string qctx, .string qres, .string qorg] 30) = wd := ⟨_, rfl⟩
            rw [hwd] at halb hnb
            obtain ⟨D, hD⟩ : ∃ D, wr.heap.size = D := ⟨_, rfl⟩
            have hnb2 : wd.drew.heap[D]? = some (.cells #[.int .u8 kind, .string qctx, .string qres, .string qorg] 30) := by rw [← hD]; exact hnb
            have HMD := Lib.hid (fun (w5 : World) (t1 : TreeV) (hg : TGo wd.drew tj w5 t1) hm hl hp => HI.out.made (D := D) (q := ⟨kind, qctx, qres, qorg⟩) halb.drew hnb2 (by rw [← hD]; exact Nat.le_refl _) hq hg hm hl hp)
            have HMK := Lib.hid (make1_any (w := wd.drew) (HI.out.go.at_.below halb.drew) ⟨kind, qctx, qres, qorg⟩ (HOK.out _ (List.mem_of_getElem? hq)) (HI.out.room HND.out hq HFS.out))
            rw [HI.out.go.tb] at HMK
            have hs17 := four_box hnb2
            clear hq hgK hjl hnb halb hnb2
            go_wp2_with (fail)
            clear hD hwd
            refine wp_region_noPanic ?_
            refine wp_region_held_drew (S := (fun wx => wx.cell? ⟨D, 0, none⟩ = some (.int .u8 kind) ∧ wx.cell? ⟨D, 1, none⟩ = some (.string qctx) ∧ wx.cell? ⟨D, 2, none⟩ = some (.string qres) ∧ wx.cell? ⟨D, 3, none⟩ = some (.string qorg))) (by kernel_rfl) ?_ (fun hHeld => ?_)
            · exact hs17
            refine wpAnyH_take (i := 0) (v := ?_) rfl (by kernel_rfl) (by kernel_rfl) (by kernel_rfl) (fun _ _ _ h => h) (Or.inl ⟨by rfl, ?hy⟩) (by assumption) ?_
            case hy => intro w hSw; (try dsimp only at hSw); go_simp; try with_reducible rfl
            try simp only [Act.put, List.getElem_toArray, List.getElem_cons_succ, List.getElem_cons_zero, List.setIfInBounds_toArray, List.set_cons_zero, List.set_cons_succ]
            refine wpAnyH_take (i := 1) (v := ?_) rfl (by kernel_rfl) (by kernel_rfl) (by kernel_rfl) (fun _ _ _ h => h) (Or.inl ⟨by rfl, ?hy⟩) (by assumption) ?_
            case hy => intro w hSw; (try dsimp only at hSw); go_simp; try with_reducible rfl
            try simp only [Act.put, List.getElem_toArray, List.getElem_cons_succ, List.getElem_cons_zero, List.setIfInBounds_toArray, List.set_cons_zero, List.set_cons_succ]
            refine wpAnyH_take (i := 2) (v := ?_) rfl (by kernel_rfl) (by kernel_rfl) (by kernel_rfl) (fun _ _ _ h => h) (Or.inl ⟨by rfl, ?hy⟩) (by assumption) ?_
            case hy => intro w hSw; (try dsimp only at hSw); go_simp; try with_reducible rfl
            try simp only [Act.put, List.getElem_toArray, List.getElem_cons_succ, List.getElem_cons_zero, List.setIfInBounds_toArray, List.set_cons_zero, List.set_cons_succ]
            refine wpAnyH_take (i := 3) (v := ?_) rfl (by kernel_rfl) (by kernel_rfl) (by kernel_rfl) (fun _ _ _ h => h) (Or.inl ⟨by rfl, ?hy⟩) (by assumption) ?_
            case hy => intro w hSw; (try dsimp only at hSw); go_simp; try with_reducible rfl
            try simp only [Act.put, List.getElem_toArray, List.getElem_cons_succ, List.getElem_cons_zero, List.setIfInBounds_toArray, List.set_cons_zero, List.set_cons_succ]
            refine wpAnyH_ready (rs := [4]) (by kernel_rfl) (by simp) (AllReadyH.cons rfl (fun K hK => ?_) AllReadyH.nil)
            go_simp
            go_at_call 40; refine HMK.out.mono ?_; rintro e w5 ⟨rfl, t1, hgo1, hm1, hl1, hp1⟩; have HN1 := Lib.hid (HMD.out w5 t1 hgo1 hm1 hl1 hp1); clear hgo1 hm1 hl1 hp1
            try (go_wp2_with fail)
            refine hK.out _ _ ?_ (fun hHeld => ?_)
            · exact HN1.out.2
            clear hK K
            try simp only [Act.put, List.getElem_toArray, List.getElem_cons_succ, List.getElem_cons_zero, List.setIfInBounds_toArray, List.set_cons_zero, List.set_cons_succ]
            refine wpAnyH_done (by kernel_rfl) ?_ _
            refine NoPanic.normal ?_
            clear hs17
            go_wp2_with (fail)
            refine ⟨⟨j + 1, _, by omega, by go_num, Lib.hid HN1.out.1⟩, by first | (simp [intOf]; done) | (simp [intOf]; omega)⟩
          · have j1 : ¬ (j : Int) < nK := by omega
            have hm := HI.out.m
            rw [List.take_of_length_le (by rw [HLN.out]; omega)] at hm
            have HFIN := Lib.hid (show ∃ t', TGo w ⟨tb, mb, .slice aR n0 capR, T, last, top⟩ wr t' ∧ t'.M = touchM (⟨tb, mb, .slice aR n0 capR, T, last, top⟩ : TreeV).M LK ∧ t'.last = last ∧ t'.top = top from ⟨tj, HI.out.go.belowL HI.out.bel HI.out.k0, hm, HI.out.last, HI.out.top⟩)
            clear hm
            go_wp2_with (fail)
            go_ret
            have hfin := HFIN.out
            rw [← HN0.out] at hfin
            exact HPOST.out _ hfin
end Go.Proofs.Ytpbbidijnmooaaa
