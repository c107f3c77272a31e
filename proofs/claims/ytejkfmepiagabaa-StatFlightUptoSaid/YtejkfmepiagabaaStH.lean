/- StatFlight: in flight are those that came, less those that ended. -/
import Derived.Test.YtejkfmepiagabaaStF
namespace Go.Proofs.Ytejkfmepiagabaa
open Go.RowKit
set_option linter.unusedVariables false
set_option linter.unusedSimpArgs false

structure FlA (w wr : World) (k : NBk) (last flight : Int) (notes : List NoteW) : Prop where
  node : NodeAt wr k last flight notes
  now : lookW last last = 0
  bel : Below w.heap.size w wr
theorem FlA.below {w wr w' : World} {k : NBk} {last flight : Int} {notes : List NoteW} (h : FlA w wr k last flight notes) (hb : Below wr.heap.size wr w') : FlA w w' k last flight notes :=
  ⟨h.node.below hb, h.now, h.bel.trans (hb.mono h.bel.size)⟩
structure BoxK (wr : World) (k : NBk) (b : Nat) (O : Obj) : Prop where
  bx : wr.heap[b]? = some O
  nk : ¬ NOwn k b
theorem BoxK.lt {wr : World} {k : NBk} {b : Nat} {O : Obj} (h : BoxK wr k b O) : b < wr.heap.size := (Array.getElem?_eq_some_iff.1 h.bx).1
theorem BoxK.below {wr w' : World} {k : NBk} {b : Nat} {O : Obj} (h : BoxK wr k b O) (hb : Below wr.heap.size wr w') : BoxK w' k b O := ⟨(hb.block b h.lt).trans h.bx, h.nk⟩
theorem BoxK.off {wr w' : World} {k : NBk} {b : Nat} {O : Obj} (h : BoxK wr k b O) (hb : Off (NOwn k) wr w') : BoxK w' k b O := ⟨(hb.block b h.lt h.nk).trans h.bx, h.nk⟩
theorem boxK_new {wr : World} {k : NBk} {last flight : Int} {notes : List NoteW} (h : NodeAt wr k last flight notes) (O : Obj) : BoxK (wr.alloc O) k wr.heap.size O :=
  ⟨(get_allocW wr O wr.heap.size).trans (if_pos rfl), fun e => by have := h.lt e; omega⟩
theorem passE_ok3 {last flight at_ : Int} {ns : List Int} (h : passE last flight at_ ns = 0) : lookW at_ at_ = 0 := by
  unfold passE at h
  by_cases e : lookN last at_ ns = 0
  · obtain ⟨h0, h1, _⟩ := lookW_ok (lookN_ok e).1
    unfold lookW
    rw [if_neg (by omega), if_neg (by omega)]
  · rw [if_pos e] at h; exact absurd h e
theorem blockE_ok3 {last flight at_ : Int} {ns : List Int} (h : blockE last flight at_ ns = 0) : lookW at_ at_ = 0 := by
  unfold blockE at h
  by_cases e : lookN last at_ ns = 0
  · obtain ⟨h0, h1, _⟩ := lookW_ok (lookN_ok e).1
    unfold lookW
    rw [if_neg (by omega), if_neg (by omega)]
  · rw [if_pos e] at h; exact absurd h e
theorem doneE_ok3 {last flight at_ rt : Int} (h : doneE last flight at_ rt = 0) : lookW at_ at_ = 0 := by
  unfold doneE at h
  split at h
  · exact absurd h (by decide)
  · by_cases e : lookW last at_ = 0
    · obtain ⟨h0, h1, _⟩ := lookW_ok e
      unfold lookW
      rw [if_neg (by omega), if_neg (by omega)]
    · rw [if_pos e] at h; exact absurd h e
set_option maxHeartbeats 12800000 in
set_option maxRecDepth 100000 in
theorem stfl_walk (w : World) (a : Option Addr) (len cap : Nat) (V : Nat → Nat → Value) (hm : len ≤ 140737488351232) (hr : RecsAt w a 5 len V)
    (h0 : ∀ j, j < len → V j 0 = .int .i64 (intOf (V j 0)) ∧ (Lit.int .i64 (intOf (V j 0))).wf = true) (h1 : ∀ j, j < len → V j 1 = .int .i64 (intOf (V j 1)) ∧ (Lit.int .i64 (intOf (V j 1))).wf = true)
    (h2 : ∀ j, j < len → V j 2 = .int .i64 (intOf (V j 2)) ∧ (Lit.int .i64 (intOf (V j 2))).wf = true) (h3 : ∀ j, j < len → V j 3 = .bool (boolOf (V j 3)))
    (h4 : ∀ j, j < len → ∃ (a : Option Addr) (l c : Nat) (ns : List Int), V j 4 = .slice a l c ∧ ns.length = l ∧ l ≤ 1048576 ∧ IntsAt w a ns) :
    Calls Try.prog 5 #[.slice a len cap] w fun e w' => e = .returned (.bool true) ∧ Below w.heap.size w w' := by
  have HR := Lib.hid hr
  have H0 := Lib.hid (fun j hj => (h0 j hj).1)
  have H1 := Lib.hid (fun j hj => (h1 j hj).1)
  have H2 := Lib.hid (fun j hj => (h2 j hj).1)
  have H3 := Lib.hid h3
  have H4 := Lib.hid h4
  have HLV := Lib.hid (stlive_any w)
  clear hr h0 h1 h2 h3 h4
  go_enter Try.func5, Try.ntmps5
  go_wp2_with (fail)
  refine HLV.out.mono ?_
  rintro e w0 ⟨rfl, hw0⟩
  have HN := Lib.hid (snew_any w0)
  obtain ⟨hk0, hb0⟩ := node_made w0
  have HOWN := Lib.hid (show ∀ i, NOwn (madeN w0.heap.size) i → w.heap.size ≤ i from fun i h => by
      have := hw0.size
      simp only [NOwn, madeN, NBk.l, List.mem_cons, List.mem_nil_iff, or_false] at h
      omega)
  have HBO := Lib.hid (show FlA w (nodeW w0) (madeN w0.heap.size) 0 0 [] from ⟨hk0, by kernel_rfl, hw0.trans (hb0.mono hw0.size)⟩)
  have HQ := Lib.hid (madeN_q w0.heap.size)
  obtain ⟨k, hk⟩ : ∃ k, madeN w0.heap.size = k := ⟨_, rfl⟩
  rw [hk] at HOWN HBO HQ
  obtain ⟨wn, hwn⟩ : ∃ wn, nodeW w0 = wn := ⟨_, rfl⟩
  rw [hwn] at HN HBO
  clear hk0 hb0 hk hwn hw0 HLV
  go_wp2_with (fail)
  refine HN.out.mono ?_
  rintro e wq ⟨rfl, hq⟩
  subst hq
  rw [← HQ.out]
  clear HN HQ
  go_wp2_with (fail)
  go_loopw [4, 5, 6] (fun fin lin i wr => ∃ (j : Nat) (last flight : Int) (notes : List NoteW), j ≤ len ∧ i = .int .i64 j ∧ fin = .int .i64 flight ∧ lin = .int .i64 last ∧ Hid (FlA w wr k last flight notes)) (fun _ _ i _ => len - (intOf i).toNat)
  case atStart => exact ⟨0, 0, 0, [], Nat.zero_le _, rfl, rfl, rfl, HBO⟩
  case round =>
    rename World => wy
    obtain ⟨j, last, flight, notes, hj, rfl, rfl, rfl, HB⟩ := hrel
    by_cases hlt : j < len
    · have j0 : (0 : Int) ≤ j := by omega
      have j1 : (j : Int) < len := by omega
      obtain ⟨b0, off, ha, hbl, hc⟩ : ∃ b off, a = some ⟨b, off, none⟩ ∧ b < w.heap.size ∧ ∀ j, j < len → ∀ k, k < 5 → w.cell? ⟨b, off + (j * 5 + k), none⟩ = some (V j k) := by
        rcases HR.out with h | h
        · omega
        · exact h
      subst ha
      obtain ⟨ac, lc, cc, ns, hv4, hnl, hlm, hia⟩ := H4.out j hlt
      obtain ⟨KD, hKD⟩ : ∃ KD, intOf (V j 0) = KD := ⟨_, rfl⟩
      obtain ⟨AT, hAT⟩ : ∃ AT, intOf (V j 1) = AT := ⟨_, rfl⟩
      obtain ⟨RT, hRT⟩ : ∃ RT, intOf (V j 2) = RT := ⟨_, rfl⟩
      obtain ⟨FB, hFB⟩ : ∃ FB, boolOf (V j 3) = FB := ⟨_, rfl⟩
      have e0 : w.cell? ⟨b0, off + j * 5, none⟩ = some (.int .i64 KD) := by
        have := hc j hlt 0 (by decide)
        rw [H0.out j hlt, hKD] at this; exact this
      have e1 : w.cell? ⟨b0, off + j * 5 + 1, none⟩ = some (.int .i64 AT) := by
        have := hc j hlt 1 (by decide)
        rw [H1.out j hlt, hAT] at this; exact this
      have e2 : w.cell? ⟨b0, off + j * 5 + 2, none⟩ = some (.int .i64 RT) := by
        have := hc j hlt 2 (by decide)
        rw [H2.out j hlt, hRT] at this; exact this
      have e3 : w.cell? ⟨b0, off + j * 5 + 3, none⟩ = some (.bool FB) := by
        have := hc j hlt 3 (by decide)
        rw [H3.out j hlt, hFB] at this; exact this
      have e4 : w.cell? ⟨b0, off + j * 5 + 4, none⟩ = some (.slice ac lc cc) := by
        have := hc j hlt 4 (by decide)
        rw [hv4] at this; exact this
      have d0 := (HB.out.bel.cell (p := ⟨b0, off + j * 5, none⟩) hbl).trans e0
      have d1 := (HB.out.bel.cell (p := ⟨b0, off + j * 5 + 1, none⟩) hbl).trans e1
      have d2 := (HB.out.bel.cell (p := ⟨b0, off + j * 5 + 2, none⟩) hbl).trans e2
      have d3 := (HB.out.bel.cell (p := ⟨b0, off + j * 5 + 3, none⟩) hbl).trans e3
      have d4 := (HB.out.bel.cell (p := ⟨b0, off + j * 5 + 4, none⟩) hbl).trans e4
      have HIA := Lib.hid hia
      have HNL := Lib.hid hnl
      clear hc hv4 hKD hAT hRT hFB e0 e1 e2 e3 e4 hia hnl
      have hf0 := HB.out.node.f0
      have hf1 := HB.out.node.f1
      have hbx : Below wy.heap.size wy (wy.alloc (.cells #[.int .i64 KD, .int .i64 AT, .int .i64 RT, .bool FB, .slice ac lc cc] 43)) := (Below.refl _ _).alloc (Nat.le_refl _) _
      have HB1 := Lib.hid (HB.out.below hbx)
      have HD1 := Lib.hid (boxK_new HB.out.node (.cells #[.int .i64 KD, .int .i64 AT, .int .i64 RT, .bool FB, .slice ac lc cc] 43))
      have HS1 := Lib.hid (ssum_any HB1.out.node last HB.out.now)
      obtain ⟨C, hC⟩ : ∃ C, winC 100000 10 last notes = C := ⟨_, rfl⟩
      rw [hC] at HS1
      obtain ⟨xp, xb, xd, xe, xr, xm⟩ := C
      have HC := Lib.hid hC
      unfold ctV at HS1
      dsimp only at HS1
      clear hbx HB hC
      go_wp2_with (fail)
      obtain ⟨db, hdb⟩ : ∃ db, wy.heap.size = db := ⟨_, rfl⟩
      obtain ⟨w1, hw1⟩ : ∃ w1, wy.alloc (.cells #[.int .i64 KD, .int .i64 AT, .int .i64 RT, .bool FB, .slice ac lc cc] 43) = w1 := ⟨_, rfl⟩
      rw [hw1] at HB1 HD1 HS1 ⊢
      rw [hdb] at HD1 ⊢
      clear hw1 hdb d0 d1 d2 d3 d4
      have HCB := Lib.hid (fun (wx : World) (h : wx.heap[db]? = some (.cells #[.int .i64 KD, .int .i64 AT, .int .i64 RT, .bool FB, .slice ac lc cc] 43)) => (show wx.cell? ⟨db, 0, none⟩ = some (.int .i64 KD) ∧ wx.cell? ⟨db, 1, none⟩ = some (.int .i64 AT) ∧ wx.cell? ⟨db, 2, none⟩ = some (.int .i64 RT) ∧ wx.cell? ⟨db, 3, none⟩ = some (.bool FB) ∧ wx.cell? ⟨db, 4, none⟩ = some (.slice ac lc cc) by
        simp only [World.cell?, h]
        exact ⟨rfl, rfl, rfl, rfl, rfl⟩))
      refine HS1.out.mono ?_
      rintro e w2 ⟨rfl, h2⟩
      have hb3 : Below w2.heap.size w2 (w2.alloc (ctO ⟨xp, xb, xd, xe, xr, xm⟩ 34)) := (Below.refl _ _).alloc (Nat.le_refl _) _
      have h3 := h2.trans (hb3.mono h2.size)
      have HB3 := Lib.hid (HB1.out.below h3)
      have HD3 := Lib.hid (HD1.out.below h3)
      have HC3 := Lib.hid (boxK_new (HB1.out.below h2).node (ctO ⟨xp, xb, xd, xe, xr, xm⟩ 34))
      obtain ⟨f0, f1, f2, f3, f4⟩ := HCB.out _ HD3.out.bx
      clear hb3 h3 h2 HS1 HB1 HD1
      unfold ctO at HB3 HD3 HC3 f0 f1 f2 f3 f4
      dsimp only at HB3 HD3 HC3 f0 f1 f2 f3 f4
      by_cases hK0 : KD = 0
      · subst hK0
        have HP := Lib.hid (spass_any HB3.out.node AT ac lc cc ns HNL.out (by omega) (HIA.out.belowF HB3.out.bel))
        by_cases hE : passE last flight AT ns = 0
        · have HE := Lib.hid hE
          clear hE
          go_wp2_with (fail)
          obtain ⟨cb, hcb⟩ : ∃ cb, w2.heap.size = cb := ⟨_, rfl⟩
          obtain ⟨w3, hw3⟩ : ∃ w3, w2.alloc (.cells #[.int .i64 xp, .int .i64 xb, .int .i64 xd, .int .i64 xe, .int .i64 xr, .int .i64 xm] 34) = w3 := ⟨_, rfl⟩
          rw [hw3] at HB3 HD3 HC3 HP ⊢
          rw [hcb] at HC3 ⊢
          clear hw3 hcb f0 f1 f2 f3 f4
          refine HP.out.mono ?_
          rintro e w4 ⟨rfl, hno, hyes⟩
          rw [HE.out]
          obtain ⟨hn4, ho4⟩ := hyes HE.out
          rw [HNL.out] at hn4
          have hnow : lookW AT AT = 0 := passE_ok3 HE.out
          have HB4 := Lib.hid (show FlA w w4 k AT (flight + (lc : Int)) (notes ++ newW AT (ns.map passC)) from ⟨hn4, hnow, HB3.out.bel.trans (ho4.below HB3.out.bel.size (fun i hi e => by have := HOWN.out i e; omega))⟩)
          have HD4 := Lib.hid (HD3.out.off ho4)
          clear hno hyes hn4 ho4 hnow HB3 HC3 HD3 HP HE
          obtain ⟨NS, hNS⟩ : ∃ NS, notes ++ newW AT (ns.map passC) = NS := ⟨_, rfl⟩
          rw [hNS] at HB4
          clear hNS
          have hg0 := HB4.out.node.f0
          have hg1 := HB4.out.node.f1
          have HS4 := Lib.hid (ssum_any HB4.out.node AT HB4.out.now)
          obtain ⟨C, hC⟩ : ∃ C, winC 100000 10 AT NS = C := ⟨_, rfl⟩
          rw [hC] at HS4
          clear hC
          obtain ⟨yp, yb, yd, ye, yr, ym⟩ := C
          unfold ctV at HS4
          dsimp only at HS4
          obtain ⟨f0, f1, f2, f3, f4⟩ := HCB.out w4 HD4.out.bx
          go_wp2_with (fail)
          refine HS4.out.mono ?_
          rintro e w5 ⟨rfl, h5⟩
          have hb6 : Below w5.heap.size w5 (w5.alloc (.cells #[.int .i64 yp, .int .i64 yb, .int .i64 yd, .int .i64 ye, .int .i64 yr, .int .i64 ym] 34)) := (Below.refl _ _).alloc (Nat.le_refl _) _
          have HB6 := Lib.hid (HB4.out.below (h5.trans (hb6.mono h5.size)))
          have HF6 := Lib.hid (sflight_any HB6.out.node)
          have HL6 := Lib.hid (slast_any HB6.out.node)
          clear hb6 h5 HS4 f0 f1 f2 f3 f4 HB4 HD4 HCB
          go_wp2_with (fail)
          refine HF6.out.mono ?_
          rintro e wq ⟨rfl, hq⟩
          subst hq
          go_wp2_with (fail)
          refine HL6.out.mono ?_
          rintro e wq ⟨rfl, hq⟩
          subst hq
          go_wp2_with (fail)
          exact ⟨⟨j + 1, AT, flight + (lc : Int), NS, by omega, by go_num, rfl, rfl, HB6⟩, by first | (simp [intOf]; done) | (simp [intOf]; omega)⟩
        · obtain ⟨E, hEE⟩ : ∃ E, passE last flight AT ns = E := ⟨_, rfl⟩
          have HEE := Lib.hid hEE
          rw [hEE] at hE
          have hne : (E != 0) = true := by simpa using hE
          have hne2 : (E == 0) = false := by simpa using hE
          have HE := Lib.hid hE
          clear hE hEE
          go_wp2_with (fail)
          obtain ⟨cb, hcb⟩ : ∃ cb, w2.heap.size = cb := ⟨_, rfl⟩
          obtain ⟨w3, hw3⟩ : ∃ w3, w2.alloc (.cells #[.int .i64 xp, .int .i64 xb, .int .i64 xd, .int .i64 xe, .int .i64 xr, .int .i64 xm] 34) = w3 := ⟨_, rfl⟩
          rw [hw3] at HB3 HD3 HC3 HP ⊢
          rw [hcb] at HC3 ⊢
          clear hw3 hcb f0 f1 f2 f3 f4
          refine HP.out.mono ?_
          rintro e w4 ⟨rfl, hno, hyes⟩
          have h4 := hno (by rw [HEE.out]; exact HE.out)
          rw [HEE.out]
          have HB4 := Lib.hid (HB3.out.below h4)
          have HD4 := Lib.hid (HD3.out.below h4)
          have HC4 := Lib.hid (HC3.out.below h4)
          clear hno hyes h4 HB3 HC3 HD3 HP HEE
          have HS4 := Lib.hid (ssum_any HB4.out.node last HB4.out.now)
          rw [HC.out] at HS4
          unfold ctV at HS4
          dsimp only at HS4
          obtain ⟨f0, f1, f2, f3, f4⟩ := HCB.out w4 HD4.out.bx
          go_wp2_with (fail)
          refine HS4.out.mono ?_
          rintro e w5 ⟨rfl, h5⟩
          have hb6 : Below w5.heap.size w5 (w5.alloc (.cells #[.int .i64 xp, .int .i64 xb, .int .i64 xd, .int .i64 xe, .int .i64 xr, .int .i64 xm] 34)) := (Below.refl _ _).alloc (Nat.le_refl _) _
          have h6 := h5.trans (hb6.mono h5.size)
          have HB6 := Lib.hid (HB4.out.below h6)
          have HF6 := Lib.hid (sflight_any HB6.out.node)
          have HL6 := Lib.hid (slast_any HB6.out.node)
          obtain ⟨⟨z0, z1, z2, z3, z4, z5⟩, zf⟩ := ct_cells (c := ⟨xp, xb, xd, xe, xr, xm⟩) (HC4.out.below h6).bx
          obtain ⟨⟨t0, t1, t2, t3, t4, t5⟩, tf⟩ := ct_cells (c := ⟨xp, xb, xd, xe, xr, xm⟩) ((get_allocW w5 (.cells #[.int .i64 xp, .int .i64 xb, .int .i64 xd, .int .i64 xe, .int .i64 xr, .int .i64 xm] 34) w5.heap.size).trans (if_pos rfl))
          dsimp only at z0 z1 z2 z3 z4 z5 t0 t1 t2 t3 t4 t5
          clear hb6 h6 h5 HS4 f0 f1 f2 f3 f4 HB4 HD4 HCB HC4 zf tf
          go_wp2_with (fail)
          refine HF6.out.mono ?_
          rintro e wq ⟨rfl, hq⟩
          subst hq
          clear z0 z1 z2 z3 z4 z5 t0 t1 t2 t3 t4 t5
          go_wp2_with (fail)
          refine HL6.out.mono ?_
          rintro e wq ⟨rfl, hq⟩
          subst hq
          go_wp2_with (fail)
          exact ⟨⟨j + 1, last, flight, notes, by omega, by go_num, rfl, rfl, HB6⟩, by first | (simp [intOf]; done) | (simp [intOf]; omega)⟩
      · have hz := 0
        by_cases hK1 : KD = 1
        · subst hK1
          have HP := Lib.hid (sblock_any HB3.out.node AT ac lc cc ns HNL.out (by omega) (HIA.out.belowF HB3.out.bel))
          by_cases hE : blockE last flight AT ns = 0
          · have HE := Lib.hid hE
            clear hE
            go_wp2_with (fail)
            obtain ⟨cb, hcb⟩ : ∃ cb, w2.heap.size = cb := ⟨_, rfl⟩
            obtain ⟨w3, hw3⟩ : ∃ w3, w2.alloc (.cells #[.int .i64 xp, .int .i64 xb, .int .i64 xd, .int .i64 xe, .int .i64 xr, .int .i64 xm] 34) = w3 := ⟨_, rfl⟩
            rw [hw3] at HB3 HD3 HC3 HP ⊢
            rw [hcb] at HC3 ⊢
            clear hw3 hcb f0 f1 f2 f3 f4
            refine HP.out.mono ?_
            rintro e w4 ⟨rfl, hno, hyes⟩
            rw [HE.out]
            obtain ⟨hn4, ho4⟩ := hyes HE.out
            have hnow : lookW AT AT = 0 := blockE_ok3 HE.out
            have HB4 := Lib.hid (show FlA w w4 k AT (flight) (notes ++ newW AT (ns.map blockC)) from ⟨hn4, hnow, HB3.out.bel.trans (ho4.below HB3.out.bel.size (fun i hi e => by have := HOWN.out i e; omega))⟩)
            have HD4 := Lib.hid (HD3.out.off ho4)
            clear hno hyes hn4 ho4 hnow HB3 HC3 HD3 HP HE
            obtain ⟨NS, hNS⟩ : ∃ NS, notes ++ newW AT (ns.map blockC) = NS := ⟨_, rfl⟩
            rw [hNS] at HB4
            clear hNS
            have hg0 := HB4.out.node.f0
            have hg1 := HB4.out.node.f1
            have HS4 := Lib.hid (ssum_any HB4.out.node AT HB4.out.now)
            obtain ⟨C, hC⟩ : ∃ C, winC 100000 10 AT NS = C := ⟨_, rfl⟩
            rw [hC] at HS4
            clear hC
            obtain ⟨yp, yb, yd, ye, yr, ym⟩ := C
            unfold ctV at HS4
            dsimp only at HS4
            obtain ⟨f0, f1, f2, f3, f4⟩ := HCB.out w4 HD4.out.bx
            go_wp2_with (fail)
            refine HS4.out.mono ?_
            rintro e w5 ⟨rfl, h5⟩
            have hb6 : Below w5.heap.size w5 (w5.alloc (.cells #[.int .i64 yp, .int .i64 yb, .int .i64 yd, .int .i64 ye, .int .i64 yr, .int .i64 ym] 34)) := (Below.refl _ _).alloc (Nat.le_refl _) _
            have HB6 := Lib.hid (HB4.out.below (h5.trans (hb6.mono h5.size)))
            have HF6 := Lib.hid (sflight_any HB6.out.node)
            have HL6 := Lib.hid (slast_any HB6.out.node)
            clear hb6 h5 HS4 f0 f1 f2 f3 f4 HB4 HD4 HCB
            go_wp2_with (fail)
            refine HF6.out.mono ?_
            rintro e wq ⟨rfl, hq⟩
            subst hq
            go_wp2_with (fail)
            refine HL6.out.mono ?_
            rintro e wq ⟨rfl, hq⟩
            subst hq
            go_wp2_with (fail)
            exact ⟨⟨j + 1, AT, flight, NS, by omega, by go_num, rfl, rfl, HB6⟩, by first | (simp [intOf]; done) | (simp [intOf]; omega)⟩
          · obtain ⟨E, hEE⟩ : ∃ E, blockE last flight AT ns = E := ⟨_, rfl⟩
            have HEE := Lib.hid hEE
            rw [hEE] at hE
            have hne : (E != 0) = true := by simpa using hE
            have hne2 : (E == 0) = false := by simpa using hE
            have HE := Lib.hid hE
            clear hE hEE
            go_wp2_with (fail)
            obtain ⟨cb, hcb⟩ : ∃ cb, w2.heap.size = cb := ⟨_, rfl⟩
            obtain ⟨w3, hw3⟩ : ∃ w3, w2.alloc (.cells #[.int .i64 xp, .int .i64 xb, .int .i64 xd, .int .i64 xe, .int .i64 xr, .int .i64 xm] 34) = w3 := ⟨_, rfl⟩
            rw [hw3] at HB3 HD3 HC3 HP ⊢
            rw [hcb] at HC3 ⊢
            clear hw3 hcb f0 f1 f2 f3 f4
            refine HP.out.mono ?_
            rintro e w4 ⟨rfl, hno, hyes⟩
            have h4 := hno (by rw [HEE.out]; exact HE.out)
            rw [HEE.out]
            have HB4 := Lib.hid (HB3.out.below h4)
            have HD4 := Lib.hid (HD3.out.below h4)
            have HC4 := Lib.hid (HC3.out.below h4)
            clear hno hyes h4 HB3 HC3 HD3 HP HEE
            have HS4 := Lib.hid (ssum_any HB4.out.node last HB4.out.now)
            rw [HC.out] at HS4
            unfold ctV at HS4
            dsimp only at HS4
            obtain ⟨f0, f1, f2, f3, f4⟩ := HCB.out w4 HD4.out.bx
            go_wp2_with (fail)
            refine HS4.out.mono ?_
            rintro e w5 ⟨rfl, h5⟩
            have hb6 : Below w5.heap.size w5 (w5.alloc (.cells #[.int .i64 xp, .int .i64 xb, .int .i64 xd, .int .i64 xe, .int .i64 xr, .int .i64 xm] 34)) := (Below.refl _ _).alloc (Nat.le_refl _) _
            have h6 := h5.trans (hb6.mono h5.size)
            have HB6 := Lib.hid (HB4.out.below h6)
            have HF6 := Lib.hid (sflight_any HB6.out.node)
            have HL6 := Lib.hid (slast_any HB6.out.node)
            obtain ⟨⟨z0, z1, z2, z3, z4, z5⟩, zf⟩ := ct_cells (c := ⟨xp, xb, xd, xe, xr, xm⟩) (HC4.out.below h6).bx
            obtain ⟨⟨t0, t1, t2, t3, t4, t5⟩, tf⟩ := ct_cells (c := ⟨xp, xb, xd, xe, xr, xm⟩) ((get_allocW w5 (.cells #[.int .i64 xp, .int .i64 xb, .int .i64 xd, .int .i64 xe, .int .i64 xr, .int .i64 xm] 34) w5.heap.size).trans (if_pos rfl))
            dsimp only at z0 z1 z2 z3 z4 z5 t0 t1 t2 t3 t4 t5
            clear hb6 h6 h5 HS4 f0 f1 f2 f3 f4 HB4 HD4 HCB HC4 zf tf
            go_wp2_with (fail)
            refine HF6.out.mono ?_
            rintro e wq ⟨rfl, hq⟩
            subst hq
            clear z0 z1 z2 z3 z4 z5 t0 t1 t2 t3 t4 t5
            go_wp2_with (fail)
            refine HL6.out.mono ?_
            rintro e wq ⟨rfl, hq⟩
            subst hq
            go_wp2_with (fail)
            exact ⟨⟨j + 1, last, flight, notes, by omega, by go_num, rfl, rfl, HB6⟩, by first | (simp [intOf]; done) | (simp [intOf]; omega)⟩
        · have hz := 0
          by_cases hK2 : KD = 2
          · subst hK2
            have HP := Lib.hid (sdone_any HB3.out.node AT RT FB)
            by_cases hE : doneE last flight AT RT = 0
            · have HE := Lib.hid hE
              clear hE
              go_wp2_with (fail)
              obtain ⟨cb, hcb⟩ : ∃ cb, w2.heap.size = cb := ⟨_, rfl⟩
              obtain ⟨w3, hw3⟩ : ∃ w3, w2.alloc (.cells #[.int .i64 xp, .int .i64 xb, .int .i64 xd, .int .i64 xe, .int .i64 xr, .int .i64 xm] 34) = w3 := ⟨_, rfl⟩
              rw [hw3] at HB3 HD3 HC3 HP ⊢
              rw [hcb] at HC3 ⊢
              clear hw3 hcb f0 f1 f2 f3 f4
              refine HP.out.mono ?_
              rintro e w4 ⟨rfl, hno, hyes⟩
              rw [HE.out]
              obtain ⟨hn4, ho4⟩ := hyes HE.out
              have hnow : lookW AT AT = 0 := doneE_ok3 HE.out
              have HB4 := Lib.hid (show FlA w w4 k AT (flight - 1) (notes ++ newW AT [doneC RT FB]) from ⟨hn4, hnow, HB3.out.bel.trans (ho4.below HB3.out.bel.size (fun i hi e => by have := HOWN.out i e; omega))⟩)
              have HD4 := Lib.hid (HD3.out.off ho4)
              clear hno hyes hn4 ho4 hnow HB3 HC3 HD3 HP HE
              obtain ⟨NS, hNS⟩ : ∃ NS, notes ++ newW AT [doneC RT FB] = NS := ⟨_, rfl⟩
              rw [hNS] at HB4
              clear hNS
              have hg0 := HB4.out.node.f0
              have hg1 := HB4.out.node.f1
              have HS4 := Lib.hid (ssum_any HB4.out.node AT HB4.out.now)
              obtain ⟨C, hC⟩ : ∃ C, winC 100000 10 AT NS = C := ⟨_, rfl⟩
              rw [hC] at HS4
              clear hC
              obtain ⟨yp, yb, yd, ye, yr, ym⟩ := C
              unfold ctV at HS4
              dsimp only at HS4
              obtain ⟨f0, f1, f2, f3, f4⟩ := HCB.out w4 HD4.out.bx
              go_wp2_with (fail)
              refine HS4.out.mono ?_
              rintro e w5 ⟨rfl, h5⟩
              have hb6 : Below w5.heap.size w5 (w5.alloc (.cells #[.int .i64 yp, .int .i64 yb, .int .i64 yd, .int .i64 ye, .int .i64 yr, .int .i64 ym] 34)) := (Below.refl _ _).alloc (Nat.le_refl _) _
              have HB6 := Lib.hid (HB4.out.below (h5.trans (hb6.mono h5.size)))
              have HF6 := Lib.hid (sflight_any HB6.out.node)
              have HL6 := Lib.hid (slast_any HB6.out.node)
              clear hb6 h5 HS4 f0 f1 f2 f3 f4 HB4 HD4 HCB
              go_wp2_with (fail)
              refine HF6.out.mono ?_
              rintro e wq ⟨rfl, hq⟩
              subst hq
              go_wp2_with (fail)
              refine HL6.out.mono ?_
              rintro e wq ⟨rfl, hq⟩
              subst hq
              go_wp2_with (fail)
              exact ⟨⟨j + 1, AT, flight - 1, NS, by omega, by go_num, rfl, rfl, HB6⟩, by first | (simp [intOf]; done) | (simp [intOf]; omega)⟩
            · obtain ⟨E, hEE⟩ : ∃ E, doneE last flight AT RT = E := ⟨_, rfl⟩
              have HEE := Lib.hid hEE
              rw [hEE] at hE
              have hne : (E != 0) = true := by simpa using hE
              have hne2 : (E == 0) = false := by simpa using hE
              have HE := Lib.hid hE
              clear hE hEE
              go_wp2_with (fail)
              obtain ⟨cb, hcb⟩ : ∃ cb, w2.heap.size = cb := ⟨_, rfl⟩
              obtain ⟨w3, hw3⟩ : ∃ w3, w2.alloc (.cells #[.int .i64 xp, .int .i64 xb, .int .i64 xd, .int .i64 xe, .int .i64 xr, .int .i64 xm] 34) = w3 := ⟨_, rfl⟩
              rw [hw3] at HB3 HD3 HC3 HP ⊢
              rw [hcb] at HC3 ⊢
              clear hw3 hcb f0 f1 f2 f3 f4
              refine HP.out.mono ?_
              rintro e w4 ⟨rfl, hno, hyes⟩
              have h4 := hno (by rw [HEE.out]; exact HE.out)
              rw [HEE.out]
              have HB4 := Lib.hid (HB3.out.below h4)
              have HD4 := Lib.hid (HD3.out.below h4)
              have HC4 := Lib.hid (HC3.out.below h4)
              clear hno hyes h4 HB3 HC3 HD3 HP HEE
              have HS4 := Lib.hid (ssum_any HB4.out.node last HB4.out.now)
              rw [HC.out] at HS4
              unfold ctV at HS4
              dsimp only at HS4
              obtain ⟨f0, f1, f2, f3, f4⟩ := HCB.out w4 HD4.out.bx
              go_wp2_with (fail)
              refine HS4.out.mono ?_
              rintro e w5 ⟨rfl, h5⟩
              have hb6 : Below w5.heap.size w5 (w5.alloc (.cells #[.int .i64 xp, .int .i64 xb, .int .i64 xd, .int .i64 xe, .int .i64 xr, .int .i64 xm] 34)) := (Below.refl _ _).alloc (Nat.le_refl _) _
              have h6 := h5.trans (hb6.mono h5.size)
              have HB6 := Lib.hid (HB4.out.below h6)
              have HF6 := Lib.hid (sflight_any HB6.out.node)
              have HL6 := Lib.hid (slast_any HB6.out.node)
              obtain ⟨⟨z0, z1, z2, z3, z4, z5⟩, zf⟩ := ct_cells (c := ⟨xp, xb, xd, xe, xr, xm⟩) (HC4.out.below h6).bx
              obtain ⟨⟨t0, t1, t2, t3, t4, t5⟩, tf⟩ := ct_cells (c := ⟨xp, xb, xd, xe, xr, xm⟩) ((get_allocW w5 (.cells #[.int .i64 xp, .int .i64 xb, .int .i64 xd, .int .i64 xe, .int .i64 xr, .int .i64 xm] 34) w5.heap.size).trans (if_pos rfl))
              dsimp only at z0 z1 z2 z3 z4 z5 t0 t1 t2 t3 t4 t5
              clear hb6 h6 h5 HS4 f0 f1 f2 f3 f4 HB4 HD4 HCB HC4 zf tf
              go_wp2_with (fail)
              refine HF6.out.mono ?_
              rintro e wq ⟨rfl, hq⟩
              subst hq
              clear z0 z1 z2 z3 z4 z5 t0 t1 t2 t3 t4 t5
              go_wp2_with (fail)
              refine HL6.out.mono ?_
              rintro e wq ⟨rfl, hq⟩
              subst hq
              go_wp2_with (fail)
              exact ⟨⟨j + 1, last, flight, notes, by omega, by go_num, rfl, rfl, HB6⟩, by first | (simp [intOf]; done) | (simp [intOf]; omega)⟩
          · have q0 : (KD == 0) = false := by simpa using hK0
            have q1 : (KD == 1) = false := by simpa using hK1
            have q2 : (KD == 2) = false := by simpa using hK2
            go_wp2_with (fail)
            exact ⟨⟨j + 1, last, flight, notes, by omega, by go_num, rfl, rfl, HB3⟩, by first | (simp [intOf]; done) | (simp [intOf]; omega)⟩
    · have j1 : ¬ (j : Int) < len := by omega
      go_wp2_with (fail)
      go_ret
      exact ⟨rfl, HB.out.bel⟩
end Go.Proofs.Ytejkfmepiagabaa
