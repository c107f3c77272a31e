/- StatSeconds: the node's second has all of the nine tenths ahead. -/
import Derived.Test.YtejkfmepiagabaaStF
namespace Go.Proofs.Ytejkfmepiagabaa
open Go.RowKit
set_option linter.unusedVariables false
set_option linter.unusedSimpArgs false

theorem passE_ok2 {last flight at_ : Int} {ns : List Int} (h : passE last flight at_ ns = 0) : lookN last at_ ns = 0 := by
  unfold passE at h
  by_cases e : lookN last at_ ns = 0
  · exact e
  · rw [if_pos e] at h; exact absurd h e
theorem lookW_self2 {last at_ : Int} (h : lookW last at_ = 0) : lookW at_ at_ = 0 := by
  obtain ⟨h0, h1, _⟩ := lookW_ok h
  unfold lookW
  rw [if_neg (by omega), if_neg (by omega)]
theorem rem_second {a : Int} (h : 0 ≤ a) : a.tmod 1000000 = a % 1000000 := Int.tmod_eq_emod_of_nonneg h
set_option maxHeartbeats 12800000 in
set_option maxRecDepth 100000 in
theorem stsec_walk (w : World) (a : Option Addr) (len cap : Nat) (V : Nat → Nat → Value) (hm : len ≤ 140737488351232) (hr : RecsAt w a 5 len V)
    (h0 : ∀ j, j < len → V j 0 = .int .i64 (intOf (V j 0)) ∧ (Lit.int .i64 (intOf (V j 0))).wf = true) (h1 : ∀ j, j < len → V j 1 = .int .i64 (intOf (V j 1)) ∧ (Lit.int .i64 (intOf (V j 1))).wf = true)
    (h2 : ∀ j, j < len → V j 2 = .int .i64 (intOf (V j 2)) ∧ (Lit.int .i64 (intOf (V j 2))).wf = true) (h3 : ∀ j, j < len → V j 3 = .bool (boolOf (V j 3)))
    (h4 : ∀ j, j < len → ∃ (a : Option Addr) (l c : Nat) (ns : List Int), V j 4 = .slice a l c ∧ ns.length = l ∧ l ≤ 9223372036854775807 ∧ I64s ns ∧ IntsAt w a ns) :
    Calls Try.prog 4 #[.slice a len cap] w fun e w' => e = .returned (.bool true) ∧ Below w.heap.size w w' := by
  have HR := Lib.hid hr
  have H0 := Lib.hid (fun j hj => (h0 j hj).1)
  have H1 := Lib.hid (fun j hj => (h1 j hj).1)
  have H2 := Lib.hid (fun j hj => (h2 j hj).1)
  have H3 := Lib.hid h3
  have H4 := Lib.hid h4
  have HLV := Lib.hid (stlive_any w)
  clear hr h0 h1 h2 h3 h4
  go_enter Try.func4, Try.ntmps4
  go_wp2_with (fail)
  refine HLV.out.mono ?_
  rintro e w0 ⟨rfl, hw0⟩
  have HN := Lib.hid (snew_any w0)
  obtain ⟨hk0, hb0⟩ := node_made w0
  have hzw : (nodeW w0).heap.size = w0.heap.size + 5 := by simp [nodeW]
  have HLIE := Lib.hid (show LieA w (madeN w0.heap.size) (w0.heap.size + 5) from ⟨fun i h => by
      have := hw0.size
      simp only [NOwn, madeN, NBk.l, List.mem_cons, List.mem_nil_iff, or_false] at h
      omega, by have := hw0.size; omega⟩)
  have HBO := Lib.hid (show SecA w (nodeW w0) (madeN w0.heap.size) (w0.heap.size + 5) 0 [] (.slice none 0 0) (.slice none 0 0) ([].map NoteW.at_) ([].map (fun (x : NoteW) => x.c.p)) from
    ⟨hk0, by intro x hx; simp at hx, World.ownsRow_nil _ _ _ _, World.ownsRow_nil _ _ _ _, fun i hi => by simp [Value.ownBlock] at hi, hw0.trans (hb0.mono hw0.size), by rw [hzw]; omega⟩)
  have HQ := Lib.hid (madeN_q w0.heap.size)
  obtain ⟨k, hk⟩ : ∃ k, madeN w0.heap.size = k := ⟨_, rfl⟩
  rw [hk] at HLIE HBO HQ
  obtain ⟨wn, hwn⟩ : ∃ wn, nodeW w0 = wn := ⟨_, rfl⟩
  rw [hwn] at HN HBO
  obtain ⟨base, hbs⟩ : ∃ base, w0.heap.size + 5 = base := ⟨_, rfl⟩
  rw [hbs] at HLIE HBO
  clear hk0 hb0 hk hwn hzw hw0 HLV hbs
  go_wp2_with (fail)
  refine HN.out.mono ?_
  rintro e wq ⟨rfl, hq⟩
  subst hq
  rw [← HQ.out]
  clear HN HQ
  go_wp2_with (fail)
  go_loopw [4, 5, 6] (fun tin cin i wr => ∃ (j : Nat) (vt vc : Value) (last : Int) (notes : List NoteW), j ≤ len ∧ i = .int .i64 j ∧ tin = vt ∧ cin = vc ∧ Hid (SecA w wr k base last notes vt vc (notes.map NoteW.at_) (notes.map (fun x => x.c.p)))) (fun _ _ i _ => len - (intOf i).toNat)
  case atStart => exact ⟨0, _, _, 0, [], Nat.zero_le _, rfl, rfl, rfl, HBO⟩
  case round =>
    rename World => wy
    obtain ⟨j, vt, vc, last, notes, hj, rfl, rfl, rfl, HB⟩ := hrel
    by_cases hlt : j < len
    · have j0 : (0 : Int) ≤ j := by omega
      have j1 : (j : Int) < len := by omega
      obtain ⟨b0, off, ha, hbl, hc⟩ : ∃ b off, a = some ⟨b, off, none⟩ ∧ b < w.heap.size ∧ ∀ j, j < len → ∀ k, k < 5 → w.cell? ⟨b, off + (j * 5 + k), none⟩ = some (V j k) := by
        rcases HR.out with h | h
        · omega
        · exact h
      subst ha
      obtain ⟨ac, lc, cc, ns, hv4, hnl, hlm, hn64, hia⟩ := H4.out j hlt
      obtain ⟨KD, hKD⟩ : ∃ KD, intOf (V j 0) = KD := ⟨_, rfl⟩
      obtain ⟨AT, hAT⟩ : ∃ AT, intOf (V j 1) = AT := ⟨_, rfl⟩
      obtain ⟨RT, hRT⟩ : ∃ RT, intOf (V j 2) = RT := ⟨_, rfl⟩
      obtain ⟨FB, hFB⟩ : ∃ FB, boolOf (V j 3) = FB := ⟨_, rfl⟩
      have e0 : w.cell? ⟨b0, off + j * 5, none⟩ = some (.int .i64 KD) := by
        have := hc j hlt 0 (by decide)
        rw [H0.out j hlt, hKD] at this; exact this
      have e1 : w.cell? ⟨b0, off + j * 5 + 1, none⟩ = some (.int .i64 AT) := by
        have := hc j hlt 1 (by decide)
        rw [H1.out j hlt, hAT] at this; exact this
      have e2 : w.cell? ⟨b0, off + j * 5 + 2, none⟩ = some (.int .i64 RT) := by
        have := hc j hlt 2 (by decide)
        rw [H2.out j hlt, hRT] at this; exact this
      have e3 : w.cell? ⟨b0, off + j * 5 + 3, none⟩ = some (.bool FB) := by
        have := hc j hlt 3 (by decide)
        rw [H3.out j hlt, hFB] at this; exact this
      have e4 : w.cell? ⟨b0, off + j * 5 + 4, none⟩ = some (.slice ac lc cc) := by
        have := hc j hlt 4 (by decide)
        rw [hv4] at this; exact this
      have d0 := (HB.out.bel.cell (p := ⟨b0, off + j * 5, none⟩) hbl).trans e0
      have d1 := (HB.out.bel.cell (p := ⟨b0, off + j * 5 + 1, none⟩) hbl).trans e1
      have d2 := (HB.out.bel.cell (p := ⟨b0, off + j * 5 + 2, none⟩) hbl).trans e2
      have d3 := (HB.out.bel.cell (p := ⟨b0, off + j * 5 + 3, none⟩) hbl).trans e3
      have d4 := (HB.out.bel.cell (p := ⟨b0, off + j * 5 + 4, none⟩) hbl).trans e4
      have HIA := Lib.hid hia
      have HNL := Lib.hid hnl
      clear hc hv4 hKD hAT hRT hFB e0 e1 e2 e3 e4 hia hnl hn64
      have hbx : Below wy.heap.size wy (wy.alloc (.cells #[.int .i64 KD, .int .i64 AT, .int .i64 RT, .bool FB, .slice ac lc cc] 43)) := (Below.refl _ _).alloc (Nat.le_refl _) _
      have HB1 := Lib.hid (HB.out.below hbx)
      have HD1 := Lib.hid (boxD_new HB.out (.cells #[.int .i64 KD, .int .i64 AT, .int .i64 RT, .bool FB, .slice ac lc cc] 43))
      clear hbx HB
      by_cases hK : KD = 0
      · subst hK
        have HP := Lib.hid (spass_any HB1.out.node AT ac lc cc ns HNL.out hlm (HIA.out.belowF HB1.out.bel))
        by_cases hE : passE last notes.length AT ns = 0
        · have HE := Lib.hid hE
          go_wp2_with (fail)
          obtain ⟨db, hdb⟩ : ∃ db, wy.heap.size = db := ⟨_, rfl⟩
          obtain ⟨w1, hw1⟩ : ∃ w1, wy.alloc (.cells #[.int .i64 0, .int .i64 AT, .int .i64 RT, .bool FB, .slice ac lc cc] 43) = w1 := ⟨_, rfl⟩
          rw [hw1] at HB1 HD1 HP ⊢
          rw [hdb] at HD1 ⊢
          clear hw1 hdb d0 d1 d2 d3 d4
          have HCB := Lib.hid (fun (wx : World) (h : wx.heap[db]? = some (.cells #[.int .i64 0, .int .i64 AT, .int .i64 RT, .bool FB, .slice ac lc cc] 43)) => (show wx.cell? ⟨db, 0, none⟩ = some (.int .i64 0) ∧ wx.cell? ⟨db, 1, none⟩ = some (.int .i64 AT) ∧ wx.cell? ⟨db, 4, none⟩ = some (.slice ac lc cc) by
            simp only [World.cell?, h]
            exact ⟨rfl, rfl, rfl⟩))
          obtain ⟨d0, d1, d4⟩ := HCB.out w1 HD1.out.bx
          refine HP.out.mono ?_
          rintro e w2 ⟨rfl, hno, hyes⟩
          rw [HE.out]
          obtain ⟨hn2, ho2⟩ := hyes HE.out
          have hok := lookN_ok (passE_ok2 HE.out)
          have HLW := Lib.hid hok.1
          have HB2 := Lib.hid (HB1.out.passed HLIE.out hn2 ho2 hok.2)
          have HD2 := Lib.hid (HD1.out.passed ho2)
          have HNS := Lib.hid (show ∀ q x, ns[q]? = some x → IntKind.i64.wrap x = x from fun q x hx => IntWalk.i64_in _ (by have := hok.2 x (List.mem_of_getElem? hx); omega))
          clear hno hyes hn2 ho2 hok HP HE HB1 HD1 d0 d1 d4 hE
          have HTE := Lib.hid (times_snoc notes AT ns)
          have HCE := Lib.hid (counts_snoc notes AT ns)
          obtain ⟨NS, hNS⟩ : ∃ NS, notes ++ newW AT (ns.map passC) = NS := ⟨_, rfl⟩
          rw [hNS] at HB2 HTE HCE
          clear hNS
          have HF := Lib.hid HB2.out.node.f1
          have HTL := Lib.hid (show (notes.map NoteW.at_).length + ns.length ≤ NS.length ∧ (notes.map (fun x => x.c.p)).length + ns.length ≤ NS.length by
            have e1 := congrArg List.length HTE.out
            have e2 := congrArg List.length HCE.out
            simp only [List.length_append, List.length_map] at e1 e2 ⊢
            omega)
          obtain ⟨T0, hT0⟩ : ∃ T0, notes.map NoteW.at_ = T0 := ⟨_, rfl⟩
          obtain ⟨C0, hC0⟩ : ∃ C0, notes.map (fun x => x.c.p) = C0 := ⟨_, rfl⟩
          rw [hT0] at HB2 HTE HTL
          rw [hC0] at HB2 HCE HTL
          clear hT0 hC0
          obtain ⟨d0, d1, d4⟩ := HCB.out w2 HD2.out.bx
          go_wp2_with (fail)
          clear d0 d1 d4
          go_loopw [4, 5, 8] (fun tin cin i wr => ∃ (q : Nat) (vt vc : Value), q ≤ lc ∧ i = .int .i64 q ∧ tin = vt ∧ cin = vc ∧ Hid (SecA w wr k base AT NS vt vc (T0 ++ (ns.take q).map (fun _ => AT)) (C0 ++ ns.take q)) ∧ Hid (BoxD wr k vt vc db (.cells #[.int .i64 0, .int .i64 AT, .int .i64 RT, .bool FB, .slice ac lc cc] 43))) (fun _ _ i _ => lc - (intOf i).toNat)
          case atStart => exact ⟨0, _, _, Nat.zero_le _, rfl, rfl, rfl, Lib.hid (by simpa using HB2.out), HD2⟩
          case round =>
            rename World => wz
            obtain ⟨q, vt, vc, hq, rfl, rfl, rfl, HB3, HD3⟩ := hrel
            obtain ⟨d0, d1, d4⟩ := HCB.out wz HD3.out.bx
            by_cases hql : q < lc
            · have q0 : (0 : Int) ≤ q := by omega
              have q1 : (q : Int) < lc := by omega
              obtain ⟨x, hx⟩ : ∃ x, ns[q]? = some x := ⟨_, List.getElem?_eq_getElem (by rw [HNL.out]; exact hql)⟩
              obtain ⟨bc, oc, hac, hbc, hxc⟩ := HIA.out.getN hx
              subst hac
              obtain ⟨vt2, w4, hr4, hs4, hd4⟩ := HB3.out.pushT HLIE.out (by
                have h1 := HTL.out.1
                have h2 := HF.out
                have h3 := HNL.out
                simp only [List.length_append, List.length_map]
                have := List.length_take_le q ns
                omega) AT 41
              have HR4 := Lib.hid hr4
              obtain ⟨vc2, w5, hr5, hs5, hd5⟩ := hs4.pushC HLIE.out (by
                have h1 := HTL.out.2
                have h2 := HF.out
                have h3 := HNL.out
                simp only [List.length_append, List.length_map]
                have := List.length_take_le q ns
                omega) x 41
              have HR5 := Lib.hid hr5
              have hd4' := hd4 _ _ HD3.out
              have HD5 := Lib.hid (hd5 _ _ hd4')
              obtain ⟨f0, f1, f4⟩ := HCB.out w4 hd4'.bx
              have f5 := (hs4.bel.cell (p := ⟨bc, oc + q, none⟩) hbc).trans hxc
              have HS5 := Lib.hid hs5
              have ht1 : T0 ++ (ns.take q).map (fun _ => AT) ++ [AT] = T0 ++ (ns.take (q + 1)).map (fun _ => AT) := by
                obtain ⟨hk, rfl⟩ := List.getElem?_eq_some_iff.1 hx
                rw [List.take_succ_eq_append_getElem hk, List.map_append, ← List.append_assoc]; rfl
              have ht2 : C0 ++ ns.take q ++ [x] = C0 ++ ns.take (q + 1) := by
                obtain ⟨hk, rfl⟩ := List.getElem?_eq_some_iff.1 hx
                rw [List.take_succ_eq_append_getElem hk, ← List.append_assoc]
              rw [ht1, ht2] at HS5
              obtain ⟨at4, ct4, hvt4, _⟩ := ownsI_slice HB3.out.rt
              obtain ⟨ac4, cc4, hvc4, _⟩ := ownsI_slice HB3.out.rc
              have HWX := Lib.hid (HNS.out q x hx)
              clear hr4 hr5 hs4 hs5 hd4 hd5 hd4' ht1 ht2 hvt4 hvc4 hx hxc
              unfold intO at HR4 HR5
              go_wp2_with (first | (at_builtin; refine wpList_append_run (by rfl) (.tmp 49) (.tmp 52) 41 41 (by rfl) (by rfl) (by rfl) (by rfl) HR4.out ?_) | (at_builtin; refine wpList_append_run (by rfl) (.tmp 54) (.tmp 60) 41 41 (by rfl) (by rfl) (by rfl) (by rfl) HR5.out ?_))
              exact ⟨⟨q + 1, _, _, by omega, by go_num, rfl, rfl, HS5, HD5⟩, by first | (simp [intOf]; done) | (simp [intOf]; omega)⟩
            · have q1 : ¬ (q : Int) < lc := by omega
              have hq2 : ns.take q = ns := List.take_of_length_le (by rw [HNL.out]; omega)
              rw [hq2, ← HTE.out, ← HCE.out] at HB3
              clear hq2 HTE HCE HTL HNS HB2 HD2
              have HLA := Lib.hid (lookW_self2 HLW.out)
              have HS1 := Lib.hid (ssum_any HB3.out.node AT HLA.out)
              have hCR : RightC (winC 100000 10 AT NS) := winC_right HB3.out.node.sec.right.1 AT
              have hsb := fun p => sumW_bound (p := p) HB3.out.pass
              have HNR := Lib.hid (near_le (at_ := AT) HB3.out.node.sec.right.1 (fun x hx => (HB3.out.node.sec.right.2 x hx).2) (by
                have h1 := (hsb (nearB AT)).2
                have h2 := HF.out
                omega))
              have HAH := Lib.hid (ahead_eq (at_ := AT) (notes := NS) (by
                have h1 := (hsb (aheadB AT)).2
                have h2 := HF.out
                omega))
              obtain ⟨C, hC⟩ : ∃ C, winC 100000 10 AT NS = C := ⟨_, rfl⟩
              rw [hC] at HS1 hCR HNR
              clear hC hCR hsb
              obtain ⟨xp, xb, xd, xe, xr, xm⟩ := C
              unfold ctV at HS1
              dsimp only at HS1 HNR
              have HCW := Lib.hid (fun (wx : World) (hb : Below wz.heap.size wz wx) => HCB.out wx ((hb.block db HD3.out.lt).trans HD3.out.bx))
              clear HCB
              go_wp2_with (fail)
              refine HS1.out.mono ?_
              rintro e w4 ⟨rfl, h4⟩
              have hb5 : Below w4.heap.size w4 (w4.alloc (ctO ⟨xp, xb, xd, xe, xr, xm⟩ 34)) := (Below.refl _ _).alloc (Nat.le_refl _) _
              have hb5' := h4.trans (hb5.mono h4.size)
              have HB5 := Lib.hid hb5'
              have HN5 := Lib.hid ((get_allocW w4 (ctO ⟨xp, xb, xd, xe, xr, xm⟩ 34) w4.heap.size).trans (if_pos rfl))
              have HZ5 := Lib.hid (show w4.heap.size < (w4.alloc (ctO ⟨xp, xb, xd, xe, xr, xm⟩ 34)).heap.size by simp)
              have HS2 := Lib.hid (spast_any (HB3.out.node.below hb5') AT HLA.out)
              rw [HAH.out] at HS2
              obtain ⟨f0, f1, f4⟩ := HCW.out _ hb5'
              obtain ⟨PA, hPA⟩ : ∃ PA, (sumW (aheadB AT) NS).p = PA := ⟨_, rfl⟩
              have HPA := Lib.hid hPA
              rw [hPA] at HS2
              clear hb5 hb5' h4 HS1 d0 d1 d4 hPA HAH
              unfold ctO at HB5 HN5 HZ5 HS2 f0 f1 f4
              dsimp only at HB5 HN5 HZ5 HS2 f0 f1 f4
              go_wp2_with (fail)
              refine HS2.out.mono ?_
              rintro e w6 ⟨rfl, h6⟩
              have HB6 := Lib.hid (HB5.out.trans (h6.mono HB5.out.size))
              have HN6 := Lib.hid ((h6.block w4.heap.size HZ5.out).trans HN5.out)
              have HZ6 := Lib.hid (Nat.lt_of_lt_of_le HZ5.out h6.size)
              clear h6 HS2 HB5 HN5 HZ5 f0 f1 f4
              obtain ⟨f0, f1, f4⟩ := HCW.out w6 HB6.out
              have a0 := (lookW_ok HLA.out).1
              have a1 := (lookW_ok HLA.out).2.1
              have hrem : AT.tmod 1000000 = AT % 1000000 := rem_second a0
              obtain ⟨RM, hRM⟩ : ∃ RM, AT % 1000000 = RM := ⟨_, rfl⟩
              rw [hRM] at hrem
              have r0 : 0 ≤ RM := by omega
              have r1 : RM < 1000000 := by omega
              obtain ⟨SD, hSD⟩ : ∃ SD, AT - RM = SD := ⟨_, rfl⟩
              have HSD := Lib.hid (show ∀ x : NoteW, aheadB AT x = (decide (x.at_ < SD) && decide (SD - 1000000 ≤ x.at_)) from fun x => by unfold aheadB; rw [hRM, hSD])
              have s0 : 0 ≤ SD := by omega
              have s1 : SD ≤ AT := by omega
              clear hRM
              go_wp2_with (fail)
              clear r0 r1 hrem hSD f0 f1 f4
              obtain ⟨at4, ct4, rfl, hct4, hlt4, hgt4⟩ := ownsI_slice (own_kept HB3.out.rt HB6.out)
              obtain ⟨ac4, cc4, rfl, hcc4, hlc4, hgc4⟩ := ownsI_slice (own_kept HB3.out.rc HB6.out)
              obtain ⟨n7, hn7⟩ : ∃ n7, NS.length = n7 := ⟨_, rfl⟩
              have HGT := Lib.hid hgt4
              have HGC := Lib.hid hgc4
              have HN7 := Lib.hid hn7
              have HLT := Lib.hid (show (NS.map NoteW.at_).length = n7 by simpa using hn7)
              have HLC := Lib.hid (show (NS.map (fun (x : NoteW) => x.c.p)).length = n7 by simpa using hn7)
              rw [HLT.out] at hct4 ⊢
              rw [HLC.out] at hcc4 ⊢
              have hn7b : n7 ≤ 4096 := by have h1 := HF.out; omega
              clear hn7 hlt4 hlc4 hgt4 hgc4
              go_loopw [13, 14, 16] (fun x z y wr => ∃ q : Nat, q ≤ n7 ∧ y = .int .i64 q ∧ x = .int .i64 (sumW (nearB AT) (NS.take q)).p ∧ z = .int .i64 (sumW (aheadB AT) (NS.take q)).p ∧ Hid (Below w6.heap.size w6 wr)) (fun _ _ y _ => n7 - (intOf y).toNat)
              case atStart => exact ⟨0, Nat.zero_le _, rfl, by simp [sumW, RawC.zero], by simp [sumW, RawC.zero], Lib.hid (Below.refl _ _)⟩
              case round =>
                rename World => wx
                obtain ⟨q, hq, rfl, rfl, rfl, HBZ⟩ := hrel
                by_cases hqn : q < n7
                · have q0 : (0 : Int) ≤ q := by omega
                  have q1 : (q : Int) < n7 := by omega
                  obtain ⟨x, hx⟩ : ∃ x, NS[q]? = some x := ⟨_, List.getElem?_eq_getElem (by rw [HN7.out]; exact hqn)⟩
                  have hxm := List.mem_of_getElem? hx
                  obtain ⟨gt, hgt, hgt1, y0⟩ := HGT.out q x.at_ (by simp [hx])
                  obtain ⟨gc, hgc, hgc1, y1⟩ := HGC.out q x.c.p (by simp [hx])
                  subst hgt
                  subst hgc
                  have y0 := (HBZ.out.cell (p := ⟨gt, q, none⟩) hgt1).trans y0
                  have y1 := (HBZ.out.cell (p := ⟨gc, q, none⟩) hgc1).trans y1
                  obtain ⟨f0, f1, f4⟩ := HCW.out wx (HB6.out.trans (HBZ.out.mono HB6.out.size))
                  obtain ⟨x0, x1⟩ := HB3.out.node.sec.right.2 x hxm
                  obtain ⟨_, x2, x3⟩ := HB3.out.pass x hxm
                  obtain ⟨s2, s3⟩ := sumW_bound (p := nearB AT) (l := NS.take q) (fun y hy => HB3.out.pass y (List.mem_of_mem_take hy))
                  obtain ⟨s4, s5⟩ := sumW_bound (p := aheadB AT) (l := NS.take q) (fun y hy => HB3.out.pass y (List.mem_of_mem_take hy))
                  have s6 : (NS.take q).length ≤ q := List.length_take_le _ _
                  have HT1 := Lib.hid (sumW_take (p := nearB AT) hx)
                  have HT2 := Lib.hid (sumW_take (p := aheadB AT) hx)
                  rw [HSD.out] at HT2
                  rw [show nearB AT x = decide (AT - x.at_ < 900000) from rfl] at HT1
                  generalize (sumW (nearB AT) (NS.take q)).p = SM at *
                  generalize (sumW (aheadB AT) (NS.take q)).p = SH at *
                  generalize x.c.p = XP at *
                  generalize x.at_ = XA at *
                  have hw1 : IntKind.i64.wrap (AT - 900000) = AT - 900000 := IntWalk.i64_in _ (by omega)
                  clear hx hxm f0 f4
                  have HHB : Below w6.heap.size w6 wx := HBZ.out
                  have HHD := Lib.hid (fun n => below_drewG HHB n)
                  clear HHB
                  by_cases hnr : AT - 900000 < XA
                  · rw [show decide (AT - XA < 900000) = true from decide_eq_true (by omega), if_pos rfl] at HT1
                    by_cases hls : XA < SD
                    · by_cases hge : SD - 1000000 ≤ XA
                      · rw [show (decide (XA < SD) && decide (SD - 1000000 ≤ XA)) = true by simp [hls, hge], if_pos rfl] at HT2
                        go_wp2_with (fail)
                        go_quiet (fail)
                        go_wp2_with (fail)
                        exact ⟨⟨q + 1, by omega, by go_num, by rw [HT1.out], by rw [HT2.out], Lib.hid (HHD.out _)⟩, by first | (simp [intOf]; done) | (simp [intOf]; omega)⟩
                      · exact absurd (by omega) hge
                    · rw [show (decide (XA < SD) && decide (SD - 1000000 ≤ XA)) = false by simp [hls], if_neg (by simp), Int.add_zero] at HT2
                      go_wp2_with (fail)
                      go_quiet (fail)
                      go_wp2_with (fail)
                      exact ⟨⟨q + 1, by omega, by go_num, by rw [HT1.out], by rw [HT2.out], Lib.hid (HHD.out _)⟩, by first | (simp [intOf]; done) | (simp [intOf]; omega)⟩
                  · rw [show decide (AT - XA < 900000) = false from decide_eq_false (by omega), if_neg (by simp), Int.add_zero] at HT1
                    by_cases hls : XA < SD
                    · by_cases hge : SD - 1000000 ≤ XA
                      · rw [show (decide (XA < SD) && decide (SD - 1000000 ≤ XA)) = true by simp [hls, hge], if_pos rfl] at HT2
                        go_wp2_with (fail)
                        go_quiet (fail)
                        go_wp2_with (fail)
                        exact ⟨⟨q + 1, by omega, by go_num, by rw [HT1.out], by rw [HT2.out], Lib.hid (HHD.out _)⟩, by first | (simp [intOf]; done) | (simp [intOf]; omega)⟩
                      · rw [show (decide (XA < SD) && decide (SD - 1000000 ≤ XA)) = false by simp [hls, hge], if_neg (by simp), Int.add_zero] at HT2
                        go_wp2_with (fail)
                        go_quiet (fail)
                        go_wp2_with (fail)
                        exact ⟨⟨q + 1, by omega, by go_num, by rw [HT1.out], by rw [HT2.out], Lib.hid (HHD.out _)⟩, by first | (simp [intOf]; done) | (simp [intOf]; omega)⟩
                    · rw [show (decide (XA < SD) && decide (SD - 1000000 ≤ XA)) = false by simp [hls], if_neg (by simp), Int.add_zero] at HT2
                      go_wp2_with (fail)
                      go_quiet (fail)
                      go_wp2_with (fail)
                      exact ⟨⟨q + 1, by omega, by go_num, by rw [HT1.out], by rw [HT2.out], Lib.hid (HHD.out _)⟩, by first | (simp [intOf]; done) | (simp [intOf]; omega)⟩
                · have q1 : ¬ (q : Int) < n7 := by omega
                  have e1 : NS.take q = NS := List.take_of_length_le (by rw [HN7.out]; omega)
                  rw [e1, HPA.out]
                  clear e1
                  have hnr := HNR.out
                  obtain ⟨SM, hSM⟩ : ∃ SM, (sumW (nearB AT) NS).p = SM := ⟨_, rfl⟩
                  rw [hSM] at hnr ⊢
                  have hnr2 : ¬ xp < SM := by omega
                  obtain ⟨⟨z0, z1, z2, z3, z4, z5⟩, zf⟩ := ct_cells (c := ⟨xp, xb, xd, xe, xr, xm⟩) ((HBZ.out.block w4.heap.size HZ6.out).trans HN6.out)
                  dsimp only at z0 z1 z2 z3 z4 z5
                  have HEN := Lib.hid ((HB3.out.below HB6.out).below HBZ.out)
                  clear hSM hnr zf
                  go_wp2_with (fail)
                  have HEN2 := HEN.out
                  rw [HLT.out, HLC.out] at HEN2
                  exact ⟨⟨j + 1, _, _, AT, NS, by omega, by go_num, rfl, rfl, Lib.hid HEN2⟩, by first | (simp [intOf]; done) | (simp [intOf]; omega)⟩
        · have HE := Lib.hid hE
          obtain ⟨E, hEE⟩ : ∃ E, passE last notes.length AT ns = E := ⟨_, rfl⟩
          have HEE := Lib.hid hEE
          rw [hEE] at hE
          have hne : (E != 0) = true := by simpa using hE
          clear hE hEE
          go_wp2_with (fail)
          refine HP.out.mono ?_
          rintro e w2 ⟨rfl, hno, hyes⟩
          rw [HEE.out]
          have HB2 := Lib.hid (HB1.out.below (hno HE.out))
          clear hno hyes HP
          go_wp2_with (fail)
          exact ⟨⟨j + 1, _, _, last, notes, by omega, by go_num, rfl, rfl, HB2⟩, by first | (simp [intOf]; done) | (simp [intOf]; omega)⟩
      · have hne : (KD != 0) = true := by simpa using hK
        go_wp2_with (fail)
        exact ⟨⟨j + 1, _, _, last, notes, by omega, by go_num, rfl, rfl, HB1⟩, by first | (simp [intOf]; done) | (simp [intOf]; omega)⟩
    · have j1 : ¬ (j : Int) < len := by omega
      go_wp2_with (fail)
      go_ret
      exact ⟨rfl, HB.out.bel⟩
end Go.Proofs.Ytejkfmepiagabaa
