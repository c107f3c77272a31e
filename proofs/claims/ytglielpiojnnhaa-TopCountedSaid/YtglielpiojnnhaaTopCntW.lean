/- TopCounted: what a bounded map has counted of a key, a sketch has counted at least. -/
import Derived.Test.YtglielpiojnnhaaTopCntA
namespace Go.Proofs.Ytglielpiojnnhaa
open Go.RowKit
set_option linter.unusedVariables false
set_option linter.unusedSimpArgs false

theorem TcI.start {w w1 : World} {N : Nat} {h : ShapeS} (hb : ShapeOk h 100) (hl : Lru w1 (w.heap.size + 1) w.heap.size N []) (hb1 : Below w.heap.size w w1) (hz : w1.heap.size = w.heap.size + 2) :
    TcI w ((w1.alloc (skObj h)).alloc (.map #[] 0)) (w.heap.size + 1) w.heap.size N [] [] w1.heap.size h [] (.slice none 0 0) [] (w1.heap.size + 1) (fun _ => none) 0 [] := by
  have e1 : Below w1.heap.size w1 (w1.alloc (skObj h)) := (Below.refl _ _).alloc (Nat.le_refl _) _
  have e2 : Below (w1.alloc (skObj h)).heap.size (w1.alloc (skObj h)) ((w1.alloc (skObj h)).alloc (.map #[] 0)) := (Below.refl _ _).alloc (Nat.le_refl _) _
  have z1 : (w1.alloc (skObj h)).heap.size = w1.heap.size + 1 := by simp
  have hsk := (skInv_made w1 hb).below e2
  have hmap := mapV_made (w1.alloc (skObj h)) 9
  rw [z1] at hmap
  refine ⟨hl.below (e1.trans (e2.mono (by omega))), leT_nil _, hsk, hmap, fun s hs => rfl, Nat.le_refl _, fun b hb2 => ?_, ?_, own_empty (by omega) (by omega), fun b hb2 => ?_, by omega, hb1.trans ((e1.mono (by omega)).trans (e2.mono (by omega)))⟩
  · have h1 : b < w1.heap.size := by rcases hb2 with rfl | rfl | h <;> first | omega | simp at h
    refine ⟨fun h2 => ?_, by omega⟩
    unfold SkOwn at h2
    simp [Value.ownBlock] at h2
    omega
  · unfold SkOwn
    simp [Value.ownBlock]
  · unfold SkOwn at hb2
    simp [Value.ownBlock] at hb2
    omega
theorem ints_oneT (w : World) (n : Int) : IntsAt (w.alloc (.cells #[.int .i64 n] 3)) (some ⟨w.heap.size, 0, none⟩) [n] := by
  refine Or.inr ⟨_, 0, rfl, by simp, fun j hj => ?_⟩
  obtain rfl : j = 0 := by simp at hj; omega
  have := new_blockS w (.cells #[.int .i64 n] 3)
  simp only [World.cell?, this]; rfl

theorem TcI.look {w wr : World} {B M N : Nat} {L : List LNode} {kl ks km : List ByteArray} {sb : Nat} {h : ShapeS} {v : Value} {bs : List BkS} {mb : Nat} {F : Value → Option Value} {n : Nat} (k : TcI w wr B M N L kl sb h ks v bs mb F n km) {s : ByteArray} (hs : s.size ≤ maxLen) :
    (Instr.lookup 31 (.map (some mb)) (.string s) false).run Try.prog wr = .ok (.int .i64 (cntT km s)) wr := by
  have h1 := k.map.look false strKeyed under_mapI (zero_intS wr) (skeyOf hs)
  rw [if_neg (by simp), k.cnt s hs] at h1
  exact h1

set_option maxHeartbeats 1600000 in
theorem lmost_any {w : World} {m mp most : Nat} {L : List LNode} (h : LBody w m mp most L) :
    Calls Try.prog 12 #[.pointer (some ⟨m, 0, none⟩)] w fun e w' => e = .returned (.int .i64 most) ∧ w' = w := by
  have c0 := h.c0
  clear h
  go_enter Try.func12, Try.ntmps12
  go_wp2_with (fail)
  go_ret
  exact ⟨rfl, rfl⟩

set_option maxHeartbeats 12800000 in
set_option maxRecDepth 100000 in
theorem topcnt_walk (w : World) (most : Int) (wm : (Lit.int .u8 most).wf = true) (a : Option Addr) (len cap : Nat) (ss : List ByteArray) (hl : ss.length = len) (hm : len ≤ 140737488351232) (hs : StrsAt w a ss) (hsz : ∀ s, s ∈ ss → s.size ≤ maxLen) :
    Calls Try.prog 3 #[.int .u8 most, .slice a len cap] w fun e w' => e = .returned (.bool true) ∧ Below w.heap.size w w' := by
  have hm0 : 0 ≤ most ∧ most ≤ 255 := by
    simp only [Lit.wf, IntKind.min, IntKind.max, IntKind.signed, IntKind.bits, Bool.and_eq_true, decide_eq_true_eq] at wm
    simpa using wm
  obtain ⟨m0, m1⟩ := hm0
  have Hs := Lib.hid hs
  have Hsz := Lib.hid hsz
  have Hl := Lib.hid hl
  have HB := Lib.hid (topOk m0 (show most ≤ 18446744073709551615 by omega))
  have hE : newE (topH most) = 0 := by
    unfold newE shapeB inB topH
    simp
  have HE := Lib.hid hE
  clear wm hs hsz hl hE
  go_enter Try.func3, Try.ntmps3
  go_wp2_with (fail)
  refine (lnew_any w (1 + most % 8) (by omega)).mono ?_
  rintro e w1 ⟨rfl, hl1, hb1, z1⟩
  obtain ⟨N, hN, hN1, hN2⟩ : ∃ N : Nat, 1 + most % 8 = (N : Int) ∧ 1 ≤ N ∧ N ≤ 8 := ⟨(1 + most % 8).toNat, by omega, by omega, by omega⟩
  rw [hN] at hl1 ⊢
  rw [show Int.toNat (N : Int) = N from rfl] at hl1
  have HS := Lib.hid (TcI.start HB.out hl1 hb1 z1)
  have HN := Lib.hid (show Calls Try.prog 5 #[.int .i64 1000, .int .i64 10, .int .i64 4, .int .i64 64, .int .u64 most] w1 (NewPost (topH most) w1) from sknew_any (topH most) w1)
  clear hl1 hb1 hN z1
  go_wp2_with (fail)
  refine HN.out.mono ?_
  rintro e w2 hp
  obtain ⟨rfl, rfl⟩ := hp.2 HE.out
  have hmk : ∀ wx : World, (Instr.makeMap 31 none).run Try.prog wx = .ok (.map (some wx.heap.size)) (wx.alloc (.map #[] 0)) := fun wx => run_makeMap _ wx
  have HZ := Lib.hid (show (w1.alloc (skObj (topH most))).heap.size = w1.heap.size + 1 by simp)
  clear hp HN HE
  generalize w1.alloc (skObj (topH most)) = w2 at *
  generalize hsb : w1.heap.size = sb at *
  have HEB := Lib.hid (fun (ks : List ByteArray) (hl : ks.length ≤ 200) (key : ByteArray) => est_bds hl most key)
  generalize topH most = h at *
  go_wp2_with (fail)
  rw [HZ.out]
  generalize hmb : sb + 1 = mb at *
  generalize w2.alloc (.map #[] 0) = w3 at *
  generalize hB : w.heap.size + 1 = B at *
  clear hmk hmb HZ hsb w2 w1 m0 m1 hB
  go_wp2_with (fail)
  go_loopw [10, 11, 12, 13, 14, 15, 16, 17, 18, 19] (fun i _ _ _ _ _ _ _ _ _ wr => ∃ (k : Nat) (L : List LNode) (v : Value) (bs : List BkS) (F : Value → Option Value) (n : Nat), k ≤ len ∧ k ≤ 200 ∧ i = .int .i64 k ∧ Hid (TcI w wr B w.heap.size N L (ss.take k) sb h (ss.take k) v bs mb F n (ss.take k))) (fun i _ _ _ _ _ _ _ _ _ _ => len - (intOf i).toNat)
  case atStart => exact ⟨0, [], _, _, _, 0, Nat.zero_le _, by omega, rfl, HS⟩
  case round =>
    obtain ⟨k, L, v, bs, F, n, hk, hk2, rfl, HK⟩ := hrel
    by_cases hlt : k < len ∧ k < 200
    · obtain ⟨hlt, h200⟩ := hlt
      rcases Hs.out with h | ⟨b, off, rfl, hbl, hcell⟩
      · exfalso; have := Hl.out; subst h; simp at this; omega
      · have hkl : k < ss.length := by rw [Hl.out]; exact hlt
        have hs1 := Hsz.out (ss.getD k ⟨#[]⟩) (by simp [List.getD, hkl])
        have htk : ss.take (k + 1) = ss.take k ++ [ss.getD k ⟨#[]⟩] := by rw [List.take_succ_eq_append_getElem hkl]; simp [List.getD, hkl]
        have hlen : (ss.take k).length = k := by rw [List.length_take]; omega
        have e0 := hcell k hkl
        have HTK := Lib.hid htk
        generalize ss.take k = ks at HK HTK hlen
        generalize ss.getD k ⟨#[]⟩ = key at hs1 e0 HTK
        clear htk hcell hkl
        have HKS := Lib.hid hs1
        have HE0 := Lib.hid e0
        have HLEN := Lib.hid hlen
        have d1 := (HK.out.bel.cell (p := ⟨b, off + k, none⟩) hbl).trans e0
        have hpk := peek_any HK.out.lru.body hs1
        rw [has_pr, val_pr] at hpk
        have hV := valA_le HK.out.le key
        obtain ⟨hlook, w2, F2, n2, hupd, hk2', hg2, hz2⟩ := HK.out.count hs1 (by rw [hlen]; exact h200)
        have hC2 := cntT_le ks key
        rw [hlen] at hC2
        obtain ⟨C, hC⟩ : ∃ C : Int, (cntT ks key : Int) = C := ⟨_, rfl⟩
        have hC0 : 0 ≤ C := by omega
        have hC1 : C ≤ 200 := by omega
        rw [hC] at hlook hupd hV
        have HC := Lib.hid (show (cntT (ks ++ [key]) key : Int) = C + 1 by rw [cntT_snoc, if_pos rfl]; omega)
        have H2 := Lib.hid hk2'
        have d2 := (hk2'.bel.cell (p := ⟨b, off + k, none⟩) hbl).trans e0
        generalize valA (pr L) key = V at hpk hV
        have hV0 := hV.1
        have hV1 : V ≤ C := hV.2
        have k0 : (0 : Int) ≤ k := by omega
        have k1 : (k : Int) < len := by omega
        have k2 : (k : Int) < 200 := by omega
        have HP := Lib.hid hpk
        clear hk2' hg2 hz2 hV hC hC2 hs1 e0 hlen hpk
        go_wp2_with (fail)
        refine HP.out.mono ?_
        rintro e wx ⟨rfl, hq⟩
        have hq := hq.symm
        subst hq
        go_wp2_with (fail)
        clear d1 hlook hupd
        refine (lput_any H2.out.lru HKS.out (V + 1)).mono ?_
        rintro e w3 ⟨L3, rfl, hl3, p3, o3, s3⟩
        have hP := putA_has N (pr L) key (V + 1)
        rw [← p3] at hP
        have H3 := Lib.hid (H2.out.lruStep hl3 (kl' := ks ++ [key]) (by rw [p3]; exact putA_le (leT_more H2.out.le key) (by omega) (by rw [HC.out]; omega)) o3 s3)
        have d3 := (H3.out.bel.cell (p := ⟨b, off + k, none⟩) hbl).trans HE0.out
        have HPP := Lib.hid hP
        generalize goneA N (pr L) key = G1
        generalize wentA N (pr L) key = G2
        clear hl3 p3 o3 s3 d2 hP H2 HP
        go_wp2_with (fail)
        have ha3 : Below w3.heap.size w3 (w3.alloc (.cells #[.int .i64 1] 3)) := (Below.refl _ _).alloc (Nat.le_refl _) _
        have H3a := Lib.hid (H3.out.below ha3)
        have hadd : addE 0 0 [1] = 0 := by decide
        have HADD := skaddI_any H3a.out.sk HB.out 0 key HKS.out (some ⟨w3.heap.size, 0, none⟩) 1 1 [1] rfl (by omega) (ints_oneT w3 1) (fun _ g off hg hs => by
          have := H3.out.sk.at_.lt hs
          injection hg with hg; injection hg with hg; omega)
        rw [hadd, if_pos rfl, if_pos rfl, ← notesT_snoc] at HADD
        refine HADD.mono ?_
        rintro e w4 ⟨rfl, v4, bs4, hk4, o4, s4⟩
        have H4 := Lib.hid (H3a.out.skStep hk4 o4 s4)
        have d4 := (H4.out.bel.cell (p := ⟨b, off + k, none⟩) hbl).trans HE0.out
        clear HADD hadd hk4 o4 s4 H3 H3a ha3 d3
        go_wp2_with (fail)
        have HG := lget_any H4.out.lru HKS.out
        rw [HPP.out.1, HPP.out.2] at HG
        refine HG.mono ?_
        rintro e w5 ⟨L5, rfl, hl5, p5, o5, s5⟩
        have H5 := Lib.hid (H4.out.lruStep hl5 (kl' := ks ++ [key]) (by rw [p5]; exact getA_le H4.out.le key) o5 (fun b hb => Or.inl (s5 b hb)))
        have d5 := (H5.out.bel.cell (p := ⟨b, off + k, none⟩) hbl).trans HE0.out
        clear HG hl5 p5 o5 s5 H4 d4
        go_wp2_with (fail)
        have HES := skEstI_any H5.out.sk HB.out 0 key HKS.out
        rw [show lookS 0 0 = 0 from by decide, if_pos rfl] at HES
        have hbd := HEB.out (ks ++ [key]) (by rw [List.length_append, HLEN.out]; simp; omega) key
        rw [HC.out, List.length_append, HLEN.out] at hbd
        generalize estN h 100 0 key (notesT (ks ++ [key])) = X at HES hbd
        have q1 : ¬ X < V + 1 := by omega
        have q2 : ¬ X < C + 1 := by omega
        have q3 : ¬ (k : Int) + 1 < X := by have := hbd.2; simp at this; omega
        refine HES.mono ?_
        rintro e w6 ⟨rfl, hb6⟩
        have H6 := Lib.hid (H5.out.below hb6)
        have d6 := (H6.out.bel.cell (p := ⟨b, off + k, none⟩) hbl).trans HE0.out
        have hlook6 := H6.out.look HKS.out
        rw [HC.out] at hlook6
        clear HES hbd H5 hb6 d5
        go_wp2_with (fail)
        exact ⟨⟨k + 1, L5, v4, bs4, F2, n2, by omega, by omega, by go_num, by rw [HTK.out]; exact H6⟩, by first | (simp [intOf]; done) | (simp [intOf]; omega)⟩
    · have HLN := Lib.hid (llen_any HK.out.lru.body)
      have hcap : (L.length : Int) ≤ N := by have := HK.out.lru.cap; omega
      have HMO := Lib.hid (lmost_any HK.out.lru.body)
      have hbel := Lib.hid HK.out.bel
      clear HK
      by_cases hA : k < len
      · have k1 : (k : Int) < len := by omega
        have k2 : ¬ (k : Int) < 200 := by omega
        go_wp2_with (fail)
        refine HLN.out.mono ?_
        rintro e wx ⟨rfl, hq⟩
        have hq := hq.symm
        subst hq
        go_wp2_with (fail)
        refine HMO.out.mono ?_
        rintro e wx ⟨rfl, hq⟩
        have hq := hq.symm
        subst hq
        go_wp2_with (fail)
        go_ret
        exact ⟨by rfl, hbel.out⟩
      · have k1 : ¬ (k : Int) < len := by omega
        go_wp2_with (fail)
        refine HLN.out.mono ?_
        rintro e wx ⟨rfl, hq⟩
        have hq := hq.symm
        subst hq
        go_wp2_with (fail)
        refine HMO.out.mono ?_
        rintro e wx ⟨rfl, hq⟩
        have hq := hq.symm
        subst hq
        go_wp2_with (fail)
        go_ret
        exact ⟨by rfl, hbel.out⟩
end Go.Proofs.Ytglielpiojnnhaa
