/- The law GuardRules. -/
import Derived.Test.YtnobfmlfhaaghaaGuM
import Derived.Test.YtnobfmlfhaaghaaLawGuA
import Derived.Test.YtnobfmlfhaaghaaGuOp
namespace Go.Proofs.Ytnobfmlfhaaghaa
open Go.RowKit
set_option linter.unusedVariables false
set_option linter.unusedSimpArgs false

theorem below_own {wr wx : World} {base size n : Nat} {e : TypeId} {v : Value} {xs : List Value} (h : wr.ownsRow base e size v n xs) (hb : Below wr.heap.size wr wx) : wx.ownsRow base e size v n xs :=
  h.kept (row := none) ⟨hb.os, hb.tape, hb.output, hb.size, fun k hk _ => hb.block k hk⟩ (by cases v.ownBlock <;> simp)
theorem own_rowsG {w : World} {base m n c : Nat} {e : TypeId} {a : Option Addr} {rs : List (List Value)} (hL : ∀ r ∈ rs, r.length = n) (hm : rs.length = m) (h : w.ownsRow base e n (.slice a m c) m rs.flatten) : RowsAt w a n rs := by
  rcases h.2 with ⟨h1, h2⟩ | ⟨g, cap, cur, h1, hb, hg, hnc, _⟩
  · subst h2
    exact Or.inl (List.length_eq_zero_iff.1 hm)
  · injection h1 with e1 e2 e3
    refine Or.inr ⟨g, 0, e1, (Array.getElem?_eq_some_iff.1 hg).1, fun j r hj k u hk hu => ?_⟩
    rw [e1] at h
    rw [Nat.zero_add, rows_cell hL hm h hj k hk]
    exact hu
theorem own_sliceG {w : World} {base n size : Nat} {e : TypeId} {v : Value} {xs : List Value} (h : w.ownsRow base e size v n xs) : ∃ a cap, v = .slice a n cap := by
  rcases h.2 with ⟨rfl, rfl⟩ | ⟨g, cap, cur, rfl, _⟩
  · exact ⟨none, 0, rfl⟩
  · exact ⟨_, cap, rfl⟩
theorem rowsAt_left {w : World} {a : Option Addr} {n : Nat} {xs ys : List (List Value)} (h : RowsAt w a n (xs ++ ys)) : RowsAt w a n xs := by
  rcases h with h | ⟨b, off, e, hl, hc⟩
  · exact Or.inl (List.append_eq_nil_iff.1 h).1
  · refine Or.inr ⟨b, off, e, hl, fun j r hj => hc j r ?_⟩
    have hjl : j < xs.length := (List.getElem?_eq_some_iff.1 hj).1
    rw [List.getElem?_append_left hjl]; exact hj
theorem fullSy_len (xs : List SysR) : ∀ r ∈ fullSy (xs.map SysR.cs), r.length = 5 := by
  intro r hr
  rcases List.mem_append.1 hr with h | h
  · exact lenSy xs r h
  · obtain ⟨q, _, rfl⟩ := List.mem_map.1 h; rfl
theorem lenNow (xs : List NowS) : ∀ r ∈ xs.map NowS.cs, r.length = 7 := by intro r hr; obtain ⟨x, _, rfl⟩ := List.mem_map.1 hr; rfl
theorem infoNow : (Try.prog.info? 29).map (fun i => (i.zero, i.size, i.bytes)) = some (some (.agg #[.int .i64 0, .int .i64 0, .int .i64 0, .int .i64 0, .int .i64 0, .int .i64 0, .int .i64 0]), 7, 56) := by kernel_rfl
theorem seven_at (w : World) (s : NowS) : ∀ j u, ([.int .i64 s.qps, .int .i64 s.thr, .int .i64 s.rt, .int .i64 s.load, .int .i64 s.cpu, .int .i64 s.most, .int .i64 s.least] : List Value)[j]? = some u → (w.alloc (.cells #[.int .i64 s.qps, .int .i64 s.thr, .int .i64 s.rt, .int .i64 s.load, .int .i64 s.cpu, .int .i64 s.most, .int .i64 s.least] 29)).cell? ((⟨w.heap.size, 0, none⟩ : Addr).add j) = some u := by
  intro j u hj
  match j, hj with
  | 0, hj => simp at hj; subst hj; simp [go_sem, Addr.add]
  | 1, hj => simp at hj; subst hj; simp [go_sem, Addr.add]
  | 2, hj => simp at hj; subst hj; simp [go_sem, Addr.add]
  | 3, hj => simp at hj; subst hj; simp [go_sem, Addr.add]
  | 4, hj => simp at hj; subst hj; simp [go_sem, Addr.add]
  | 5, hj => simp at hj; subst hj; simp [go_sem, Addr.add]
  | 6, hj => simp at hj; subst hj; simp [go_sem, Addr.add]
  | j + 7, hj => simp at hj
theorem seven_one (s : NowS) : ∀ u ∈ ([.int .i64 s.qps, .int .i64 s.thr, .int .i64 s.rt, .int .i64 s.load, .int .i64 s.cpu, .int .i64 s.most, .int .i64 s.least] : List Value), u.oneCell' = true := by
  intro u hu
  simp only [List.mem_cons, List.not_mem_nil, or_false] at hu
  rcases hu with rfl | rfl | rfl | rfl | rfl | rfl | rfl <;> rfl
theorem now_flat (ns : List NowS) (k : Nat) (h : k < ns.length) : ((ns.take k).map NowS.cs).flatten ++ [.int .i64 ns[k].qps, .int .i64 ns[k].thr, .int .i64 ns[k].rt, .int .i64 ns[k].load, .int .i64 ns[k].cpu, .int .i64 ns[k].most, .int .i64 ns[k].least] = ((ns.take (k + 1)).map NowS.cs).flatten := by
  rw [show ns.take (k + 1) = ns.take k ++ [ns[k]] from List.take_succ_eq_append_getElem h, List.map_append, List.flatten_append]
  congr 1

set_option maxHeartbeats 12800000 in
set_option maxRecDepth 100000 in
theorem grules_walk {w : World} (r : SysL) (hr : SysLAt w r) (n : Int) (wn : (Lit.int .i64 n).wf = true) (q : NowL) (hq : NowLAt w q) :
    Calls Try.prog 7 #[r.v, .int .i64 n, q.v] w fun e w' => e = .returned (.bool true) ∧ Below w.heap.size w w' := by
  obtain ⟨a, ln, cap, rs⟩ := r
  obtain ⟨an, lnn, capn, ns⟩ := q
  obtain ⟨hl, hb, hc, hrow⟩ := hr
  obtain ⟨hm, hbn, hcn, hnow⟩ := hq
  dsimp only at hl hb hc hrow hm hbn hcn hnow
  unfold SysL.v NowL.v
  dsimp only
  obtain ⟨i0, hi, hz0, hz1, hz2⟩ := info_partsO infoNow
  have HR := Lib.hid hrow
  have HSN := Lib.hid hnow
  have HL := Lib.hid hl
  have HM := Lib.hid hm
  have HCP := Lib.hid (And.intro hc hcn)
  clear hl hm hrow hnow hc hcn wn
  go_enter Try.func7, Try.ntmps7
  go_wp2_with (fail)
  refine (handSy_any a ln cap rs HL.out hb HR.out).mono ?_
  rintro e w1 ⟨rfl, hin, hb1⟩
  have HIN := Lib.hid hin
  have HB1 := Lib.hid hb1
  obtain ⟨G, hG⟩ : ∃ G, w.heap.size = G := ⟨_, rfl⟩
  have HGW := Lib.hid hG
  rw [hG] at HIN ⊢
  clear hin hb1 hG
  obtain ⟨B, hB⟩ : ∃ B, w1.heap.size = B := ⟨_, rfl⟩
  have HBW := Lib.hid hB
  have hbn1 : lnn * 56 ≤ 140737488351232 := hbn
  clear hB
  go_wp2_with (fail)
  go_loopw [8, 9] (fun v i wr => ∃ (k : Nat), k ≤ lnn ∧ i = .int .i64 k ∧ Hid (wr.ownsRow B 29 7 v k ((ns.take k).map NowS.cs).flatten) ∧ Hid (Below w1.heap.size w1 wr)) (fun _ i _ => lnn - (intOf i).toNat)
  case atStart => exact ⟨0, Nat.zero_le _, rfl, Lib.hid (World.ownsRow_nil _ _ _ _), Lib.hid (Below.refl _ _)⟩
  case round =>
    rename World => wy
    obtain ⟨k, hk, rfl, HO, HBY⟩ := hrel
    obtain ⟨va, vc, rfl⟩ := own_sliceG HO.out
    have hby : B ≤ wy.heap.size := by rw [← HBW.out]; exact HBY.out.size
    have hwy := HB1.out.trans (HBY.out.mono HB1.out.size)
    have HWY := Lib.hid hwy
    clear hwy
    by_cases hlt : k < lnn
    · have hkl : k < ns.length := by rw [HM.out]; exact hlt
      have k0 : (0 : Int) ≤ k := by omega
      have k1 : (k : Int) < lnn := by omega
      obtain ⟨nb, no, rfl, hnl, c0, c1, c2, c3, c4, c5, c6⟩ := now_get HSN.out (List.getElem?_eq_getElem hkl)
      have c0 := (HWY.out.cell (p := ⟨nb, no + k * 7, none⟩) hnl).trans c0
      have c1 := (HWY.out.cell (p := ⟨nb, no + k * 7 + 1, none⟩) hnl).trans c1
      have c2 := (HWY.out.cell (p := ⟨nb, no + k * 7 + 2, none⟩) hnl).trans c2
      have c3 := (HWY.out.cell (p := ⟨nb, no + k * 7 + 3, none⟩) hnl).trans c3
      have c4 := (HWY.out.cell (p := ⟨nb, no + k * 7 + 4, none⟩) hnl).trans c4
      have c5 := (HWY.out.cell (p := ⟨nb, no + k * 7 + 5, none⟩) hnl).trans c5
      have c6 := (HWY.out.cell (p := ⟨nb, no + k * 7 + 6, none⟩) hnl).trans c6
      have HFL := Lib.hid (now_flat ns k hkl)
      generalize ns[k]'hkl = s at *
      go_wp2_with (fail)
      refine (of_now s.qps s.thr s.rt s.load s.cpu s.most s.least wy).mono ?_
      rintro e wq ⟨rfl, hbq⟩
      have hbz := hbq.size
      have HO2 := Lib.hid (below_own HO.out hbq)
      have HBQ := Lib.hid (HBY.out.trans (hbq.mono HBY.out.size))
      clear hbq c0 c1 c2 c3 c4 c5 c6
      go_wp2_with (at_builtin; refine wpList_append_own _ rfl (.tmp 25) (.tmp 31) 54 rfl B 29 i0 (.agg #[.int .i64 0, .int .i64 0, .int .i64 0, .int .i64 0, .int .i64 0, .int .i64 0, .int .i64 0]) 7 56 Try.underlying54 hi hz0 hz1 hz2 rfl (by decide) (.slice va k vc) k (((ns.take k).map NowS.cs).flatten) (by rfl) (HO2.out.alloc _) ⟨wq.heap.size, 0, none⟩ 1 1 [.int .i64 s.qps, .int .i64 s.thr, .int .i64 s.rt, .int .i64 s.load, .int .i64 s.cpu, .int .i64 s.most, .int .i64 s.least] (by rfl) (by rfl) (seven_at wq s) (seven_one s) (by unfold maxLen; omega) (by omega) (by simp; omega) ?_; intro v3 w3 hown3 hg3 _)
      obtain ⟨va3, vc3, rfl⟩ := own_sliceG hown3
      have HO3 := Lib.hid hown3
      have HG3 := Lib.hid hg3
      clear hown3 hg3
      go_wp2_with (fail)
      refine ⟨⟨k + 1, by omega, by go_num, Lib.hid (by rw [← HFL.out]; exact HO3.out), Lib.hid ((HBQ.out.alloc HBQ.out.size _).grown HG3.out (by have := HBQ.out.size; simp; omega) (fun j hj => by have := (HO2.out.lt j hj).1; rw [HBW.out]; exact this))⟩, by first | (simp [intOf]; done) | (simp [intOf]; omega)⟩
    · have e : k = lnn := by omega
      subst e
      have k1 : ¬ (k : Int) < k := by omega
      have HOA : Hid (wy.ownsRow B 29 7 (.slice va k vc) k (ns.map NowS.cs).flatten) := Lib.hid (by
        have h := HO.out
        rwa [List.take_of_length_le (by rw [HM.out]; exact Nat.le_refl _)] at h)
      have HRA := Lib.hid (own_rowsG (lenNow ns) (by rw [List.length_map]; exact HM.out) HOA.out)
      have HINR := Lib.hid (rowsAt_left (xs := rs.map SysR.cs) (own_rowsG (rs := fullSy (rs.map SysR.cs)) (m := ln + 9) (fullSy_len rs) (by unfold fullSy; rw [List.length_append, List.length_map, List.length_map, List.length_range, HL.out]) HIN.out))
      have HIY := Lib.hid (HINR.out.below (Nat.le_refl _) HBY.out)
      have HRY := Lib.hid (HR.out.below (Nat.le_refl _) HWY.out)
      have HSY := Lib.hid (HSN.out.below (Nat.le_refl _) HWY.out)
      have HKEEP := Lib.hid (below_own HIN.out HBY.out)
      have HGC := Lib.hid (gsystems_any (some ⟨G, 0, none⟩) va ln (ln + 9) k vc rs ns n HL.out HM.out (by omega) (by omega) HIY.out HRA.out)
      have HRC : Hid (∀ wx, Below wy.heap.size wy wx → _) := Lib.hid (fun wx hx => rsystems_any (w := wx) a an ln cap k capn rs ns n HL.out HM.out (by omega) (by omega) (HRY.out.below (Nat.le_refl _) hx) (HSY.out.below (Nat.le_refl _) hx))
      have HKC : Hid (∀ wx, Below wy.heap.size wy wx → _) := Lib.hid (fun wx hx => keptSy_any (w := wx) G _ a ln cap rs HL.out hb (below_own HKEEP.out hx) (HRY.out.below (Nat.le_refl _) hx))
      obtain ⟨⟨ri, rb, re⟩, hR⟩ : ∃ R, sysRes rs n ns = R := ⟨_, rfl⟩
      simp only [hR, tri3] at HGC HRC
      clear hR HO hlt
      go_wp2_with (fail)
      refine HGC.out.mono ?_
      rintro e w2 ⟨rfl, hb2⟩
      have HB2 := Lib.hid hb2
      clear hb2
      go_wp2_with (fail)
      refine (HRC.out _ HB2.out).mono ?_
      rintro e w3 ⟨rfl, hb3⟩
      have HB3 := Lib.hid (HB2.out.trans (hb3.mono HB2.out.size))
      clear hb3
      go_wp2_with (fail)
      refine (glive_any _).mono ?_
      rintro e w4 ⟨rfl, hb4⟩
      have HB4 := Lib.hid (HB3.out.trans (hb4.mono HB3.out.size))
      clear hb4
      go_wp2_with (fail)
      refine (HKC.out _ HB4.out).mono ?_
      rintro e w5 ⟨rfl, hb5⟩
      have HB5 := Lib.hid (HB4.out.trans (hb5.mono HB4.out.size))
      clear hb5 HB2 HB3 HB4 HGC HRC HKC HKEEP HIY
      go_wp2_with (fail)
      go_loopw [16] (fun i wr => ∃ (j : Nat), j ≤ ln ∧ i = .int .i64 j ∧ Hid (Below wy.heap.size wy wr)) (fun i _ => ln - (intOf i).toNat)
      case atStart => exact ⟨0, Nat.zero_le _, rfl, HB5⟩
      case round =>
        rename World => wz
        obtain ⟨j, hj, rfl, HBZ⟩ := hrel
        by_cases hjt : j < ln
        · have j0 : (0 : Int) ≤ j := by omega
          have j1 : (j : Int) < ln := by omega
          by_cases hk0 : 0 < k
          · have hjl : j < rs.length := by rw [HL.out]; exact hjt
            have hkl : 0 < ns.length := by rw [HM.out]; exact hk0
            have kp : (0 : Int) < k := by omega
            obtain ⟨gb, off, rfl, hgb, d0, d1, d2, d3, d4⟩ := sys_get HRY.out (List.getElem?_eq_getElem hjl)
            obtain ⟨nb, no, rfl, hnl, c0, c1, c2, c3, c4, c5, c6⟩ := now_get HSY.out (List.getElem?_eq_getElem hkl)
            obtain ⟨ab, ao, rfl, hal, a0, a1, a2, a3, a4, a5, a6⟩ := now_get HRA.out (List.getElem?_eq_getElem hkl)
            rw [Nat.zero_mul, Nat.add_zero] at c0 c1 c2 c3 c4 c5 c6 a0 a1 a2 a3 a4 a5 a6
            generalize rs[j]'hjl = x at *
            generalize ns[0]'hkl = s at *
            have HX1 : Hid (∀ wx, Calls Try.prog 12 #[.agg #[.int .i64 x.q, .int .i64 x.t, .int .i64 x.r, .int .i64 x.l, .int .i64 x.c], .int .i64 n, .agg #[.int .i64 s.qps, .int .i64 s.thr, .int .i64 s.rt, .int .i64 s.load, .int .i64 s.cpu, .int .i64 s.most, .int .i64 s.least]] wx fun e w' => e = .returned (.bool (passB x.s n s)) ∧ Below wx.heap.size wx w') := Lib.hid (fun wx => gsystem_any x.s n s wx)
            have HX2 : Hid (∀ wx, Calls Try.prog 27 #[.agg #[.int .i64 x.q, .int .i64 x.t, .int .i64 x.r, .int .i64 x.l, .int .i64 x.c], .int .i64 n, .agg #[.int .i64 s.qps, .int .i64 s.thr, .int .i64 s.rt, .int .i64 s.load, .int .i64 s.cpu, .int .i64 s.most, .int .i64 s.least]] wx fun e w' => e = .returned (.bool (passB x.s n s)) ∧ Below wx.heap.size wx w') := Lib.hid (fun wx => rsystem_any x.s n s wx)
            have HX3 : Hid (∀ wx, Calls Try.prog 11 #[.agg #[.int .i64 x.q, .int .i64 x.t, .int .i64 x.r, .int .i64 x.l, .int .i64 x.c], .int .i64 n, .agg #[.int .i64 s.qps, .int .i64 s.thr, .int .i64 s.rt, .int .i64 s.load, .int .i64 s.cpu, .int .i64 s.most, .int .i64 s.least]] wx fun e w' => e = .returned (.string (fieldT x.s n s)) ∧ Below wx.heap.size wx w') := Lib.hid (fun wx => fieldt_any x.s n s wx)
            have HX4 : Hid (∀ wx, Calls Try.prog 28 #[.agg #[.int .i64 x.q, .int .i64 x.t, .int .i64 x.r, .int .i64 x.l, .int .i64 x.c], .int .i64 n, .agg #[.int .i64 s.qps, .int .i64 s.thr, .int .i64 s.rt, .int .i64 s.load, .int .i64 s.cpu, .int .i64 s.most, .int .i64 s.least]] wx fun e w' => e = .returned (.string (fieldT x.s n s)) ∧ Below wx.heap.size wx w') := Lib.hid (fun wx => rfield_any x.s n s wx)
            generalize passB x.s n s = PB at *
            generalize fieldT x.s n s = FT at *
            have SB : Hid (∀ wx, Below wy.heap.size wy wx → (fun wx => (wx.cell? ⟨gb, off + j * 5, none⟩ = some (.int .i64 x.q) ∧ wx.cell? ⟨gb, off + j * 5 + 1, none⟩ = some (.int .i64 x.t) ∧ wx.cell? ⟨gb, off + j * 5 + 2, none⟩ = some (.int .i64 x.r) ∧ wx.cell? ⟨gb, off + j * 5 + 3, none⟩ = some (.int .i64 x.l) ∧ wx.cell? ⟨gb, off + j * 5 + 4, none⟩ = some (.int .i64 x.c)) ∧ (wx.cell? ⟨nb, no, none⟩ = some (.int .i64 s.qps) ∧ wx.cell? ⟨nb, no + 1, none⟩ = some (.int .i64 s.thr) ∧ wx.cell? ⟨nb, no + 2, none⟩ = some (.int .i64 s.rt) ∧ wx.cell? ⟨nb, no + 3, none⟩ = some (.int .i64 s.load) ∧ wx.cell? ⟨nb, no + 4, none⟩ = some (.int .i64 s.cpu) ∧ wx.cell? ⟨nb, no + 5, none⟩ = some (.int .i64 s.most) ∧ wx.cell? ⟨nb, no + 6, none⟩ = some (.int .i64 s.least)) ∧ (wx.cell? ⟨ab, ao, none⟩ = some (.int .i64 s.qps) ∧ wx.cell? ⟨ab, ao + 1, none⟩ = some (.int .i64 s.thr) ∧ wx.cell? ⟨ab, ao + 2, none⟩ = some (.int .i64 s.rt) ∧ wx.cell? ⟨ab, ao + 3, none⟩ = some (.int .i64 s.load) ∧ wx.cell? ⟨ab, ao + 4, none⟩ = some (.int .i64 s.cpu) ∧ wx.cell? ⟨ab, ao + 5, none⟩ = some (.int .i64 s.most) ∧ wx.cell? ⟨ab, ao + 6, none⟩ = some (.int .i64 s.least)) ∧ Below wy.heap.size wy wx) wx) := Lib.hid (fun wx hb => ⟨⟨(hb.cell (p := ⟨gb, off + j * 5, none⟩) hgb).trans d0, (hb.cell (p := ⟨gb, off + j * 5 + 1, none⟩) hgb).trans d1, (hb.cell (p := ⟨gb, off + j * 5 + 2, none⟩) hgb).trans d2, (hb.cell (p := ⟨gb, off + j * 5 + 3, none⟩) hgb).trans d3, (hb.cell (p := ⟨gb, off + j * 5 + 4, none⟩) hgb).trans d4⟩, ⟨(hb.cell (p := ⟨nb, no, none⟩) hnl).trans c0, (hb.cell (p := ⟨nb, no + 1, none⟩) hnl).trans c1, (hb.cell (p := ⟨nb, no + 2, none⟩) hnl).trans c2, (hb.cell (p := ⟨nb, no + 3, none⟩) hnl).trans c3, (hb.cell (p := ⟨nb, no + 4, none⟩) hnl).trans c4, (hb.cell (p := ⟨nb, no + 5, none⟩) hnl).trans c5, (hb.cell (p := ⟨nb, no + 6, none⟩) hnl).trans c6⟩, ⟨(hb.cell (p := ⟨ab, ao, none⟩) hal).trans a0, (hb.cell (p := ⟨ab, ao + 1, none⟩) hal).trans a1, (hb.cell (p := ⟨ab, ao + 2, none⟩) hal).trans a2, (hb.cell (p := ⟨ab, ao + 3, none⟩) hal).trans a3, (hb.cell (p := ⟨ab, ao + 4, none⟩) hal).trans a4, (hb.cell (p := ⟨ab, ao + 5, none⟩) hal).trans a5, (hb.cell (p := ⟨ab, ao + 6, none⟩) hal).trans a6⟩, hb⟩)
            clear d0 d1 d2 d3 d4 c0 c1 c2 c3 c4 c5 c6 a0 a1 a2 a3 a4 a5 a6
            obtain ⟨x0, x1, x2, x3, x4⟩ := x
            dsimp only at *
            cases PB
            · go_wp2_with (fail)
              refine wp_region_noPanic ?_
              refine wp_region_held_drew (S := (fun wx => (wx.cell? ⟨gb, off + j * 5, none⟩ = some (.int .i64 x0) ∧ wx.cell? ⟨gb, off + j * 5 + 1, none⟩ = some (.int .i64 x1) ∧ wx.cell? ⟨gb, off + j * 5 + 2, none⟩ = some (.int .i64 x2) ∧ wx.cell? ⟨gb, off + j * 5 + 3, none⟩ = some (.int .i64 x3) ∧ wx.cell? ⟨gb, off + j * 5 + 4, none⟩ = some (.int .i64 x4)) ∧ (wx.cell? ⟨nb, no, none⟩ = some (.int .i64 s.qps) ∧ wx.cell? ⟨nb, no + 1, none⟩ = some (.int .i64 s.thr) ∧ wx.cell? ⟨nb, no + 2, none⟩ = some (.int .i64 s.rt) ∧ wx.cell? ⟨nb, no + 3, none⟩ = some (.int .i64 s.load) ∧ wx.cell? ⟨nb, no + 4, none⟩ = some (.int .i64 s.cpu) ∧ wx.cell? ⟨nb, no + 5, none⟩ = some (.int .i64 s.most) ∧ wx.cell? ⟨nb, no + 6, none⟩ = some (.int .i64 s.least)) ∧ (wx.cell? ⟨ab, ao, none⟩ = some (.int .i64 s.qps) ∧ wx.cell? ⟨ab, ao + 1, none⟩ = some (.int .i64 s.thr) ∧ wx.cell? ⟨ab, ao + 2, none⟩ = some (.int .i64 s.rt) ∧ wx.cell? ⟨ab, ao + 3, none⟩ = some (.int .i64 s.load) ∧ wx.cell? ⟨ab, ao + 4, none⟩ = some (.int .i64 s.cpu) ∧ wx.cell? ⟨ab, ao + 5, none⟩ = some (.int .i64 s.most) ∧ wx.cell? ⟨ab, ao + 6, none⟩ = some (.int .i64 s.least)) ∧ Below wy.heap.size wy wx)) (by kernel_rfl) ?_ (fun hHeld => ?_)
              · exact SB.out _ HBZ.out.drew
              refine wpAnyH_take (i := 0) (v := ?_) rfl (by kernel_rfl) (by kernel_rfl) (by kernel_rfl) (fun _ _ _ h => h) (Or.inl ⟨by rfl, ?hy⟩) (by assumption) ?_
              case hy => intro w hSw; (try dsimp only at hSw); go_simp; try with_reducible rfl
              try simp only [Act.put, List.getElem_toArray, List.getElem_cons_succ, List.getElem_cons_zero, List.setIfInBounds_toArray, List.set_cons_zero, List.set_cons_succ]
              refine wpAnyH_take (i := 1) (v := ?_) rfl (by kernel_rfl) (by kernel_rfl) (by kernel_rfl) (fun _ _ _ h => h) (Or.inl ⟨by rfl, ?hy⟩) (by assumption) ?_
              case hy => intro w hSw; (try dsimp only at hSw); go_simp; try with_reducible rfl
              try simp only [Act.put, List.getElem_toArray, List.getElem_cons_succ, List.getElem_cons_zero, List.setIfInBounds_toArray, List.set_cons_zero, List.set_cons_succ]
              refine wpAnyH_take (i := 2) (v := ?_) rfl (by kernel_rfl) (by kernel_rfl) (by kernel_rfl) (fun _ _ _ h => h) (Or.inl ⟨by rfl, ?hy⟩) (by assumption) ?_
              case hy => intro w hSw; (try dsimp only at hSw); go_simp; try with_reducible rfl
              try simp only [Act.put, List.getElem_toArray, List.getElem_cons_succ, List.getElem_cons_zero, List.setIfInBounds_toArray, List.set_cons_zero, List.set_cons_succ]
              refine wpAnyH_take (i := 3) (v := ?_) rfl (by kernel_rfl) (by kernel_rfl) (by kernel_rfl) (fun _ _ _ h => h) (Or.inl ⟨by rfl, ?hy⟩) (by assumption) ?_
              case hy => intro w hSw; (try dsimp only at hSw); go_simp; try with_reducible rfl
              try simp only [Act.put, List.getElem_toArray, List.getElem_cons_succ, List.getElem_cons_zero, List.setIfInBounds_toArray, List.set_cons_zero, List.set_cons_succ]
              refine wpAnyH_take (i := 4) (v := ?_) rfl (by kernel_rfl) (by kernel_rfl) (by kernel_rfl) (fun _ _ _ h => h) (Or.inl ⟨by rfl, ?hy⟩) (by assumption) ?_
              case hy => intro w hSw; (try dsimp only at hSw); go_simp; try with_reducible rfl
              try simp only [Act.put, List.getElem_toArray, List.getElem_cons_succ, List.getElem_cons_zero, List.setIfInBounds_toArray, List.set_cons_zero, List.set_cons_succ]
              refine wpAnyH_take (i := 5) (v := ?_) rfl (by kernel_rfl) (by kernel_rfl) (by kernel_rfl) (fun _ _ _ h => h) (Or.inl ⟨by rfl, ?hy⟩) (by assumption) ?_
              case hy => intro w hSw; (try dsimp only at hSw); go_simp; try with_reducible rfl
              try simp only [Act.put, List.getElem_toArray, List.getElem_cons_succ, List.getElem_cons_zero, List.setIfInBounds_toArray, List.set_cons_zero, List.set_cons_succ]
              refine wpAnyH_take (i := 6) (v := ?_) rfl (by kernel_rfl) (by kernel_rfl) (by kernel_rfl) (fun _ _ _ h => h) (Or.inl ⟨by rfl, ?hy⟩) (by assumption) ?_
              case hy => intro w hSw; (try dsimp only at hSw); go_simp; try with_reducible rfl
              try simp only [Act.put, List.getElem_toArray, List.getElem_cons_succ, List.getElem_cons_zero, List.setIfInBounds_toArray, List.set_cons_zero, List.set_cons_succ]
              refine wpAnyH_take (i := 7) (v := ?_) rfl (by kernel_rfl) (by kernel_rfl) (by kernel_rfl) (fun _ _ _ h => h) (Or.inl ⟨by rfl, ?hy⟩) (by assumption) ?_
              case hy => intro w hSw; (try dsimp only at hSw); go_simp; try with_reducible rfl
              try simp only [Act.put, List.getElem_toArray, List.getElem_cons_succ, List.getElem_cons_zero, List.setIfInBounds_toArray, List.set_cons_zero, List.set_cons_succ]
              refine wpAnyH_take (i := 9) (v := ?_) rfl (by kernel_rfl) (by kernel_rfl) (by kernel_rfl) (fun _ _ _ h => h) (Or.inl ⟨by rfl, ?hy⟩) (by assumption) ?_
              case hy => intro w hSw; (try dsimp only at hSw); go_simp; try with_reducible rfl
              try simp only [Act.put, List.getElem_toArray, List.getElem_cons_succ, List.getElem_cons_zero, List.setIfInBounds_toArray, List.set_cons_zero, List.set_cons_succ]
              refine wpAnyH_take (i := 10) (v := ?_) rfl (by kernel_rfl) (by kernel_rfl) (by kernel_rfl) (fun _ _ _ h => h) (Or.inl ⟨by rfl, ?hy⟩) (by assumption) ?_
              case hy => intro w hSw; (try dsimp only at hSw); go_simp; try with_reducible rfl
              try simp only [Act.put, List.getElem_toArray, List.getElem_cons_succ, List.getElem_cons_zero, List.setIfInBounds_toArray, List.set_cons_zero, List.set_cons_succ]
              refine wpAnyH_take (i := 11) (v := ?_) rfl (by kernel_rfl) (by kernel_rfl) (by kernel_rfl) (fun _ _ _ h => h) (Or.inl ⟨by rfl, ?hy⟩) (by assumption) ?_
              case hy => intro w hSw; (try dsimp only at hSw); go_simp; try with_reducible rfl
              try simp only [Act.put, List.getElem_toArray, List.getElem_cons_succ, List.getElem_cons_zero, List.setIfInBounds_toArray, List.set_cons_zero, List.set_cons_succ]
              refine wpAnyH_take (i := 12) (v := ?_) rfl (by kernel_rfl) (by kernel_rfl) (by kernel_rfl) (fun _ _ _ h => h) (Or.inl ⟨by rfl, ?hy⟩) (by assumption) ?_
              case hy => intro w hSw; (try dsimp only at hSw); go_simp; try with_reducible rfl
              try simp only [Act.put, List.getElem_toArray, List.getElem_cons_succ, List.getElem_cons_zero, List.setIfInBounds_toArray, List.set_cons_zero, List.set_cons_succ]
              refine wpAnyH_take (i := 13) (v := ?_) rfl (by kernel_rfl) (by kernel_rfl) (by kernel_rfl) (fun _ _ _ h => h) (Or.inl ⟨by rfl, ?hy⟩) (by assumption) ?_
              case hy => intro w hSw; (try dsimp only at hSw); go_simp; try with_reducible rfl
              try simp only [Act.put, List.getElem_toArray, List.getElem_cons_succ, List.getElem_cons_zero, List.setIfInBounds_toArray, List.set_cons_zero, List.set_cons_succ]
              refine wpAnyH_take (i := 14) (v := ?_) rfl (by kernel_rfl) (by kernel_rfl) (by kernel_rfl) (fun _ _ _ h => h) (Or.inl ⟨by rfl, ?hy⟩) (by assumption) ?_
              case hy => intro w hSw; (try dsimp only at hSw); go_simp; try with_reducible rfl
              try simp only [Act.put, List.getElem_toArray, List.getElem_cons_succ, List.getElem_cons_zero, List.setIfInBounds_toArray, List.set_cons_zero, List.set_cons_succ]
              refine wpAnyH_take (i := 15) (v := ?_) rfl (by kernel_rfl) (by kernel_rfl) (by kernel_rfl) (fun _ _ _ h => h) (Or.inl ⟨by rfl, ?hy⟩) (by assumption) ?_
              case hy => intro w hSw; (try dsimp only at hSw); go_simp; try with_reducible rfl
              try simp only [Act.put, List.getElem_toArray, List.getElem_cons_succ, List.getElem_cons_zero, List.setIfInBounds_toArray, List.set_cons_zero, List.set_cons_succ]
              refine wpAnyH_take (i := 16) (v := ?_) rfl (by kernel_rfl) (by kernel_rfl) (by kernel_rfl) (fun _ _ _ h => h) (Or.inl ⟨by rfl, ?hy⟩) (by assumption) ?_
              case hy => intro w hSw; (try dsimp only at hSw); go_simp; try with_reducible rfl
              try simp only [Act.put, List.getElem_toArray, List.getElem_cons_succ, List.getElem_cons_zero, List.setIfInBounds_toArray, List.set_cons_zero, List.set_cons_succ]
              refine wpAnyH_ready (rs := [8]) (by kernel_rfl) (by simp) (AllReadyH.cons rfl (fun K hK => ?_) AllReadyH.nil)
              go_simp
              go_at_call 12; refine (HX1.out _).mono ?_; rintro e wq ⟨rfl, hbq⟩
              try (go_wp2_with fail)
              refine hK.out _ _ ?_ (fun hHeld => ?_)
              · exact SB.out _ (hHeld.2.2.2.trans (hbq.mono hHeld.2.2.2.size))
              clear hK K
              try simp only [Act.put, List.getElem_toArray, List.getElem_cons_succ, List.getElem_cons_zero, List.setIfInBounds_toArray, List.set_cons_zero, List.set_cons_succ]
              refine wpAnyH_ready (rs := [17]) (by kernel_rfl) (by simp) (AllReadyH.cons rfl (fun K hK => ?_) AllReadyH.nil)
              go_simp
              go_at_call 27; refine (HX2.out _).mono ?_; rintro e wq ⟨rfl, hbq⟩
              try (go_wp2_with fail)
              refine hK.out _ _ ?_ (fun hHeld => ?_)
              · exact SB.out _ (hHeld.2.2.2.trans (hbq.mono hHeld.2.2.2.size))
              clear hK K
              try simp only [Act.put, List.getElem_toArray, List.getElem_cons_succ, List.getElem_cons_zero, List.setIfInBounds_toArray, List.set_cons_zero, List.set_cons_succ]
              refine wpAnyH_take (i := 18) (v := ?_) rfl (by kernel_rfl) (by kernel_rfl) (by kernel_rfl) (fun _ _ _ h => h) (Or.inl ⟨by rfl, ?hy⟩) (by assumption) ?_
              case hy => intro w hSw; (try dsimp only at hSw); go_simp; try with_reducible rfl
              try simp only [Act.put, List.getElem_toArray, List.getElem_cons_succ, List.getElem_cons_zero, List.setIfInBounds_toArray, List.set_cons_zero, List.set_cons_succ]
              refine wpAnyH_take (i := 19) (v := ?_) rfl (by kernel_rfl) (by kernel_rfl) (by kernel_rfl) (fun _ _ _ h => h) (Or.inl ⟨by rfl, ?hy⟩) (by assumption) ?_
              case hy => intro w hSw; (try dsimp only at hSw); go_simp; try with_reducible rfl
              try simp only [Act.put, List.getElem_toArray, List.getElem_cons_succ, List.getElem_cons_zero, List.setIfInBounds_toArray, List.set_cons_zero, List.set_cons_succ]
              refine wpAnyH_take (i := 20) (v := ?_) rfl (by kernel_rfl) (by kernel_rfl) (by kernel_rfl) (fun _ _ _ h => h) (Or.inl ⟨by rfl, ?hy⟩) (by assumption) ?_
              case hy => intro w hSw; (try dsimp only at hSw); go_simp; try with_reducible rfl
              try simp only [Act.put, List.getElem_toArray, List.getElem_cons_succ, List.getElem_cons_zero, List.setIfInBounds_toArray, List.set_cons_zero, List.set_cons_succ]
              refine wpAnyH_take (i := 21) (v := ?_) rfl (by kernel_rfl) (by kernel_rfl) (by kernel_rfl) (fun _ _ _ h => h) (Or.inl ⟨by rfl, ?hy⟩) (by assumption) ?_
              case hy => intro w hSw; (try dsimp only at hSw); go_simp; try with_reducible rfl
              try simp only [Act.put, List.getElem_toArray, List.getElem_cons_succ, List.getElem_cons_zero, List.setIfInBounds_toArray, List.set_cons_zero, List.set_cons_succ]
              refine wpAnyH_take (i := 22) (v := ?_) rfl (by kernel_rfl) (by kernel_rfl) (by kernel_rfl) (fun _ _ _ h => h) (Or.inl ⟨by rfl, ?hy⟩) (by assumption) ?_
              case hy => intro w hSw; (try dsimp only at hSw); go_simp; try with_reducible rfl
              try simp only [Act.put, List.getElem_toArray, List.getElem_cons_succ, List.getElem_cons_zero, List.setIfInBounds_toArray, List.set_cons_zero, List.set_cons_succ]
              refine wpAnyH_take (i := 23) (v := ?_) rfl (by kernel_rfl) (by kernel_rfl) (by kernel_rfl) (fun _ _ _ h => h) (Or.inl ⟨by rfl, ?hy⟩) (by assumption) ?_
              case hy => intro w hSw; (try dsimp only at hSw); go_simp; try with_reducible rfl
              try simp only [Act.put, List.getElem_toArray, List.getElem_cons_succ, List.getElem_cons_zero, List.setIfInBounds_toArray, List.set_cons_zero, List.set_cons_succ]
              refine wpAnyH_take (i := 24) (v := ?_) rfl (by kernel_rfl) (by kernel_rfl) (by kernel_rfl) (fun _ _ _ h => h) (Or.inl ⟨by rfl, ?hy⟩) (by assumption) ?_
              case hy => intro w hSw; (try dsimp only at hSw); go_simp; try with_reducible rfl
              try simp only [Act.put, List.getElem_toArray, List.getElem_cons_succ, List.getElem_cons_zero, List.setIfInBounds_toArray, List.set_cons_zero, List.set_cons_succ]
              refine wpAnyH_take (i := 25) (v := ?_) rfl (by kernel_rfl) (by kernel_rfl) (by kernel_rfl) (fun _ _ _ h => h) (Or.inl ⟨by rfl, ?hy⟩) (by assumption) ?_
              case hy => intro w hSw; (try dsimp only at hSw); go_simp; try with_reducible rfl
              try simp only [Act.put, List.getElem_toArray, List.getElem_cons_succ, List.getElem_cons_zero, List.setIfInBounds_toArray, List.set_cons_zero, List.set_cons_succ]
              refine wpAnyH_take (i := 26) (v := ?_) rfl (by kernel_rfl) (by kernel_rfl) (by kernel_rfl) (fun _ _ _ h => h) (Or.inl ⟨by rfl, ?hy⟩) (by assumption) ?_
              case hy => intro w hSw; (try dsimp only at hSw); go_simp; try with_reducible rfl
              try simp only [Act.put, List.getElem_toArray, List.getElem_cons_succ, List.getElem_cons_zero, List.setIfInBounds_toArray, List.set_cons_zero, List.set_cons_succ]
              refine wpAnyH_take (i := 27) (v := ?_) rfl (by kernel_rfl) (by kernel_rfl) (by kernel_rfl) (fun _ _ _ h => h) (Or.inl ⟨by rfl, ?hy⟩) (by assumption) ?_
              case hy => intro w hSw; (try dsimp only at hSw); go_simp; try with_reducible rfl
              try simp only [Act.put, List.getElem_toArray, List.getElem_cons_succ, List.getElem_cons_zero, List.setIfInBounds_toArray, List.set_cons_zero, List.set_cons_succ]
              refine wpAnyH_take (i := 29) (v := ?_) rfl (by kernel_rfl) (by kernel_rfl) (by kernel_rfl) (fun _ _ _ h => h) (Or.inl ⟨by rfl, ?hy⟩) (by assumption) ?_
              case hy => intro w hSw; (try dsimp only at hSw); go_simp; try with_reducible rfl
              try simp only [Act.put, List.getElem_toArray, List.getElem_cons_succ, List.getElem_cons_zero, List.setIfInBounds_toArray, List.set_cons_zero, List.set_cons_succ]
              refine wpAnyH_take (i := 30) (v := ?_) rfl (by kernel_rfl) (by kernel_rfl) (by kernel_rfl) (fun _ _ _ h => h) (Or.inl ⟨by rfl, ?hy⟩) (by assumption) ?_
              case hy => intro w hSw; (try dsimp only at hSw); go_simp; try with_reducible rfl
              try simp only [Act.put, List.getElem_toArray, List.getElem_cons_succ, List.getElem_cons_zero, List.setIfInBounds_toArray, List.set_cons_zero, List.set_cons_succ]
              refine wpAnyH_take (i := 31) (v := ?_) rfl (by kernel_rfl) (by kernel_rfl) (by kernel_rfl) (fun _ _ _ h => h) (Or.inl ⟨by rfl, ?hy⟩) (by assumption) ?_
              case hy => intro w hSw; (try dsimp only at hSw); go_simp; try with_reducible rfl
              try simp only [Act.put, List.getElem_toArray, List.getElem_cons_succ, List.getElem_cons_zero, List.setIfInBounds_toArray, List.set_cons_zero, List.set_cons_succ]
              refine wpAnyH_take (i := 32) (v := ?_) rfl (by kernel_rfl) (by kernel_rfl) (by kernel_rfl) (fun _ _ _ h => h) (Or.inl ⟨by rfl, ?hy⟩) (by assumption) ?_
              case hy => intro w hSw; (try dsimp only at hSw); go_simp; try with_reducible rfl
              try simp only [Act.put, List.getElem_toArray, List.getElem_cons_succ, List.getElem_cons_zero, List.setIfInBounds_toArray, List.set_cons_zero, List.set_cons_succ]
              refine wpAnyH_take (i := 33) (v := ?_) rfl (by kernel_rfl) (by kernel_rfl) (by kernel_rfl) (fun _ _ _ h => h) (Or.inl ⟨by rfl, ?hy⟩) (by assumption) ?_
              case hy => intro w hSw; (try dsimp only at hSw); go_simp; try with_reducible rfl
              try simp only [Act.put, List.getElem_toArray, List.getElem_cons_succ, List.getElem_cons_zero, List.setIfInBounds_toArray, List.set_cons_zero, List.set_cons_succ]
              refine wpAnyH_take (i := 34) (v := ?_) rfl (by kernel_rfl) (by kernel_rfl) (by kernel_rfl) (fun _ _ _ h => h) (Or.inl ⟨by rfl, ?hy⟩) (by assumption) ?_
              case hy => intro w hSw; (try dsimp only at hSw); go_simp; try with_reducible rfl
              try simp only [Act.put, List.getElem_toArray, List.getElem_cons_succ, List.getElem_cons_zero, List.setIfInBounds_toArray, List.set_cons_zero, List.set_cons_succ]
              refine wpAnyH_take (i := 35) (v := ?_) rfl (by kernel_rfl) (by kernel_rfl) (by kernel_rfl) (fun _ _ _ h => h) (Or.inl ⟨by rfl, ?hy⟩) (by assumption) ?_
              case hy => intro w hSw; (try dsimp only at hSw); go_simp; try with_reducible rfl
              try simp only [Act.put, List.getElem_toArray, List.getElem_cons_succ, List.getElem_cons_zero, List.setIfInBounds_toArray, List.set_cons_zero, List.set_cons_succ]
              refine wpAnyH_take (i := 36) (v := ?_) rfl (by kernel_rfl) (by kernel_rfl) (by kernel_rfl) (fun _ _ _ h => h) (Or.inl ⟨by rfl, ?hy⟩) (by assumption) ?_
              case hy => intro w hSw; (try dsimp only at hSw); go_simp; try with_reducible rfl
              try simp only [Act.put, List.getElem_toArray, List.getElem_cons_succ, List.getElem_cons_zero, List.setIfInBounds_toArray, List.set_cons_zero, List.set_cons_succ]
              refine wpAnyH_ready (rs := [28]) (by kernel_rfl) (by simp) (AllReadyH.cons rfl (fun K hK => ?_) AllReadyH.nil)
              go_simp
              go_at_call 11; refine (HX3.out _).mono ?_; rintro e wq ⟨rfl, hbq⟩
              try (go_wp2_with fail)
              refine hK.out _ _ ?_ (fun hHeld => ?_)
              · exact SB.out _ (hHeld.2.2.2.trans (hbq.mono hHeld.2.2.2.size))
              clear hK K
              try simp only [Act.put, List.getElem_toArray, List.getElem_cons_succ, List.getElem_cons_zero, List.setIfInBounds_toArray, List.set_cons_zero, List.set_cons_succ]
              refine wpAnyH_ready (rs := [37]) (by kernel_rfl) (by simp) (AllReadyH.cons rfl (fun K hK => ?_) AllReadyH.nil)
              go_simp
              go_at_call 28; refine (HX4.out _).mono ?_; rintro e wq ⟨rfl, hbq⟩
              try (go_wp2_with fail)
              refine hK.out _ _ ?_ (fun hHeld => ?_)
              · exact SB.out _ (hHeld.2.2.2.trans (hbq.mono hHeld.2.2.2.size))
              clear hK K
              try simp only [Act.put, List.getElem_toArray, List.getElem_cons_succ, List.getElem_cons_zero, List.setIfInBounds_toArray, List.set_cons_zero, List.set_cons_succ]
              refine wpAnyH_take (i := 38) (v := ?_) rfl (by kernel_rfl) (by kernel_rfl) (by kernel_rfl) (fun _ _ _ h => h) (Or.inl ⟨by rfl, ?hy⟩) (by assumption) ?_
              case hy => intro w hSw; (try dsimp only at hSw); go_simp; try with_reducible rfl
              try simp only [Act.put, List.getElem_toArray, List.getElem_cons_succ, List.getElem_cons_zero, List.setIfInBounds_toArray, List.set_cons_zero, List.set_cons_succ]
              refine wpAnyH_take (i := 39) (v := ?_) rfl (by kernel_rfl) (by kernel_rfl) (by kernel_rfl) (fun _ _ _ h => h) (Or.inl ⟨by rfl, ?hy⟩) (by assumption) ?_
              case hy => intro w hSw; (try dsimp only at hSw); go_simp; try with_reducible rfl
              try simp only [Act.put, List.getElem_toArray, List.getElem_cons_succ, List.getElem_cons_zero, List.setIfInBounds_toArray, List.set_cons_zero, List.set_cons_succ]
              refine wpAnyH_done (by kernel_rfl) ?_ _
              refine NoPanic.normal ?_
              go_wp2_with (fail)
              exact ⟨⟨j + 1, by omega, by go_num, Lib.hid hHeld.2.2.2⟩, by first | (simp [intOf]; done) | (simp [intOf]; omega)⟩
            · go_wp2_with (fail)
              refine wp_region_noPanic ?_
              refine wp_region_held_drew (S := (fun wx => (wx.cell? ⟨gb, off + j * 5, none⟩ = some (.int .i64 x0) ∧ wx.cell? ⟨gb, off + j * 5 + 1, none⟩ = some (.int .i64 x1) ∧ wx.cell? ⟨gb, off + j * 5 + 2, none⟩ = some (.int .i64 x2) ∧ wx.cell? ⟨gb, off + j * 5 + 3, none⟩ = some (.int .i64 x3) ∧ wx.cell? ⟨gb, off + j * 5 + 4, none⟩ = some (.int .i64 x4)) ∧ (wx.cell? ⟨nb, no, none⟩ = some (.int .i64 s.qps) ∧ wx.cell? ⟨nb, no + 1, none⟩ = some (.int .i64 s.thr) ∧ wx.cell? ⟨nb, no + 2, none⟩ = some (.int .i64 s.rt) ∧ wx.cell? ⟨nb, no + 3, none⟩ = some (.int .i64 s.load) ∧ wx.cell? ⟨nb, no + 4, none⟩ = some (.int .i64 s.cpu) ∧ wx.cell? ⟨nb, no + 5, none⟩ = some (.int .i64 s.most) ∧ wx.cell? ⟨nb, no + 6, none⟩ = some (.int .i64 s.least)) ∧ (wx.cell? ⟨ab, ao, none⟩ = some (.int .i64 s.qps) ∧ wx.cell? ⟨ab, ao + 1, none⟩ = some (.int .i64 s.thr) ∧ wx.cell? ⟨ab, ao + 2, none⟩ = some (.int .i64 s.rt) ∧ wx.cell? ⟨ab, ao + 3, none⟩ = some (.int .i64 s.load) ∧ wx.cell? ⟨ab, ao + 4, none⟩ = some (.int .i64 s.cpu) ∧ wx.cell? ⟨ab, ao + 5, none⟩ = some (.int .i64 s.most) ∧ wx.cell? ⟨ab, ao + 6, none⟩ = some (.int .i64 s.least)) ∧ Below wy.heap.size wy wx)) (by kernel_rfl) ?_ (fun hHeld => ?_)
              · exact SB.out _ HBZ.out.drew
              refine wpAnyH_take (i := 0) (v := ?_) rfl (by kernel_rfl) (by kernel_rfl) (by kernel_rfl) (fun _ _ _ h => h) (Or.inl ⟨by rfl, ?hy⟩) (by assumption) ?_
              case hy => intro w hSw; (try dsimp only at hSw); go_simp; try with_reducible rfl
              try simp only [Act.put, List.getElem_toArray, List.getElem_cons_succ, List.getElem_cons_zero, List.setIfInBounds_toArray, List.set_cons_zero, List.set_cons_succ]
              refine wpAnyH_take (i := 1) (v := ?_) rfl (by kernel_rfl) (by kernel_rfl) (by kernel_rfl) (fun _ _ _ h => h) (Or.inl ⟨by rfl, ?hy⟩) (by assumption) ?_
              case hy => intro w hSw; (try dsimp only at hSw); go_simp; try with_reducible rfl
              try simp only [Act.put, List.getElem_toArray, List.getElem_cons_succ, List.getElem_cons_zero, List.setIfInBounds_toArray, List.set_cons_zero, List.set_cons_succ]
              refine wpAnyH_take (i := 2) (v := ?_) rfl (by kernel_rfl) (by kernel_rfl) (by kernel_rfl) (fun _ _ _ h => h) (Or.inl ⟨by rfl, ?hy⟩) (by assumption) ?_
              case hy => intro w hSw; (try dsimp only at hSw); go_simp; try with_reducible rfl
              try simp only [Act.put, List.getElem_toArray, List.getElem_cons_succ, List.getElem_cons_zero, List.setIfInBounds_toArray, List.set_cons_zero, List.set_cons_succ]
              refine wpAnyH_take (i := 3) (v := ?_) rfl (by kernel_rfl) (by kernel_rfl) (by kernel_rfl) (fun _ _ _ h => h) (Or.inl ⟨by rfl, ?hy⟩) (by assumption) ?_
              case hy => intro w hSw; (try dsimp only at hSw); go_simp; try with_reducible rfl
              try simp only [Act.put, List.getElem_toArray, List.getElem_cons_succ, List.getElem_cons_zero, List.setIfInBounds_toArray, List.set_cons_zero, List.set_cons_succ]
              refine wpAnyH_take (i := 4) (v := ?_) rfl (by kernel_rfl) (by kernel_rfl) (by kernel_rfl) (fun _ _ _ h => h) (Or.inl ⟨by rfl, ?hy⟩) (by assumption) ?_
              case hy => intro w hSw; (try dsimp only at hSw); go_simp; try with_reducible rfl
              try simp only [Act.put, List.getElem_toArray, List.getElem_cons_succ, List.getElem_cons_zero, List.setIfInBounds_toArray, List.set_cons_zero, List.set_cons_succ]
              refine wpAnyH_take (i := 5) (v := ?_) rfl (by kernel_rfl) (by kernel_rfl) (by kernel_rfl) (fun _ _ _ h => h) (Or.inl ⟨by rfl, ?hy⟩) (by assumption) ?_
              case hy => intro w hSw; (try dsimp only at hSw); go_simp; try with_reducible rfl
              try simp only [Act.put, List.getElem_toArray, List.getElem_cons_succ, List.getElem_cons_zero, List.setIfInBounds_toArray, List.set_cons_zero, List.set_cons_succ]
              refine wpAnyH_take (i := 6) (v := ?_) rfl (by kernel_rfl) (by kernel_rfl) (by kernel_rfl) (fun _ _ _ h => h) (Or.inl ⟨by rfl, ?hy⟩) (by assumption) ?_
              case hy => intro w hSw; (try dsimp only at hSw); go_simp; try with_reducible rfl
              try simp only [Act.put, List.getElem_toArray, List.getElem_cons_succ, List.getElem_cons_zero, List.setIfInBounds_toArray, List.set_cons_zero, List.set_cons_succ]
              refine wpAnyH_take (i := 7) (v := ?_) rfl (by kernel_rfl) (by kernel_rfl) (by kernel_rfl) (fun _ _ _ h => h) (Or.inl ⟨by rfl, ?hy⟩) (by assumption) ?_
              case hy => intro w hSw; (try dsimp only at hSw); go_simp; try with_reducible rfl
              try simp only [Act.put, List.getElem_toArray, List.getElem_cons_succ, List.getElem_cons_zero, List.setIfInBounds_toArray, List.set_cons_zero, List.set_cons_succ]
              refine wpAnyH_take (i := 9) (v := ?_) rfl (by kernel_rfl) (by kernel_rfl) (by kernel_rfl) (fun _ _ _ h => h) (Or.inl ⟨by rfl, ?hy⟩) (by assumption) ?_
              case hy => intro w hSw; (try dsimp only at hSw); go_simp; try with_reducible rfl
              try simp only [Act.put, List.getElem_toArray, List.getElem_cons_succ, List.getElem_cons_zero, List.setIfInBounds_toArray, List.set_cons_zero, List.set_cons_succ]
              refine wpAnyH_take (i := 10) (v := ?_) rfl (by kernel_rfl) (by kernel_rfl) (by kernel_rfl) (fun _ _ _ h => h) (Or.inl ⟨by rfl, ?hy⟩) (by assumption) ?_
              case hy => intro w hSw; (try dsimp only at hSw); go_simp; try with_reducible rfl
              try simp only [Act.put, List.getElem_toArray, List.getElem_cons_succ, List.getElem_cons_zero, List.setIfInBounds_toArray, List.set_cons_zero, List.set_cons_succ]
              refine wpAnyH_take (i := 11) (v := ?_) rfl (by kernel_rfl) (by kernel_rfl) (by kernel_rfl) (fun _ _ _ h => h) (Or.inl ⟨by rfl, ?hy⟩) (by assumption) ?_
              case hy => intro w hSw; (try dsimp only at hSw); go_simp; try with_reducible rfl
              try simp only [Act.put, List.getElem_toArray, List.getElem_cons_succ, List.getElem_cons_zero, List.setIfInBounds_toArray, List.set_cons_zero, List.set_cons_succ]
              refine wpAnyH_take (i := 12) (v := ?_) rfl (by kernel_rfl) (by kernel_rfl) (by kernel_rfl) (fun _ _ _ h => h) (Or.inl ⟨by rfl, ?hy⟩) (by assumption) ?_
              case hy => intro w hSw; (try dsimp only at hSw); go_simp; try with_reducible rfl
              try simp only [Act.put, List.getElem_toArray, List.getElem_cons_succ, List.getElem_cons_zero, List.setIfInBounds_toArray, List.set_cons_zero, List.set_cons_succ]
              refine wpAnyH_take (i := 13) (v := ?_) rfl (by kernel_rfl) (by kernel_rfl) (by kernel_rfl) (fun _ _ _ h => h) (Or.inl ⟨by rfl, ?hy⟩) (by assumption) ?_
              case hy => intro w hSw; (try dsimp only at hSw); go_simp; try with_reducible rfl
              try simp only [Act.put, List.getElem_toArray, List.getElem_cons_succ, List.getElem_cons_zero, List.setIfInBounds_toArray, List.set_cons_zero, List.set_cons_succ]
              refine wpAnyH_take (i := 14) (v := ?_) rfl (by kernel_rfl) (by kernel_rfl) (by kernel_rfl) (fun _ _ _ h => h) (Or.inl ⟨by rfl, ?hy⟩) (by assumption) ?_
              case hy => intro w hSw; (try dsimp only at hSw); go_simp; try with_reducible rfl
              try simp only [Act.put, List.getElem_toArray, List.getElem_cons_succ, List.getElem_cons_zero, List.setIfInBounds_toArray, List.set_cons_zero, List.set_cons_succ]
              refine wpAnyH_take (i := 15) (v := ?_) rfl (by kernel_rfl) (by kernel_rfl) (by kernel_rfl) (fun _ _ _ h => h) (Or.inl ⟨by rfl, ?hy⟩) (by assumption) ?_
              case hy => intro w hSw; (try dsimp only at hSw); go_simp; try with_reducible rfl
              try simp only [Act.put, List.getElem_toArray, List.getElem_cons_succ, List.getElem_cons_zero, List.setIfInBounds_toArray, List.set_cons_zero, List.set_cons_succ]
              refine wpAnyH_take (i := 16) (v := ?_) rfl (by kernel_rfl) (by kernel_rfl) (by kernel_rfl) (fun _ _ _ h => h) (Or.inl ⟨by rfl, ?hy⟩) (by assumption) ?_
              case hy => intro w hSw; (try dsimp only at hSw); go_simp; try with_reducible rfl
              try simp only [Act.put, List.getElem_toArray, List.getElem_cons_succ, List.getElem_cons_zero, List.setIfInBounds_toArray, List.set_cons_zero, List.set_cons_succ]
              refine wpAnyH_ready (rs := [8]) (by kernel_rfl) (by simp) (AllReadyH.cons rfl (fun K hK => ?_) AllReadyH.nil)
              go_simp
              go_at_call 12; refine (HX1.out _).mono ?_; rintro e wq ⟨rfl, hbq⟩
              try (go_wp2_with fail)
              refine hK.out _ _ ?_ (fun hHeld => ?_)
              · exact SB.out _ (hHeld.2.2.2.trans (hbq.mono hHeld.2.2.2.size))
              clear hK K
              try simp only [Act.put, List.getElem_toArray, List.getElem_cons_succ, List.getElem_cons_zero, List.setIfInBounds_toArray, List.set_cons_zero, List.set_cons_succ]
              refine wpAnyH_ready (rs := [17]) (by kernel_rfl) (by simp) (AllReadyH.cons rfl (fun K hK => ?_) AllReadyH.nil)
              go_simp
              go_at_call 27; refine (HX2.out _).mono ?_; rintro e wq ⟨rfl, hbq⟩
              try (go_wp2_with fail)
              refine hK.out _ _ ?_ (fun hHeld => ?_)
              · exact SB.out _ (hHeld.2.2.2.trans (hbq.mono hHeld.2.2.2.size))
              clear hK K
              try simp only [Act.put, List.getElem_toArray, List.getElem_cons_succ, List.getElem_cons_zero, List.setIfInBounds_toArray, List.set_cons_zero, List.set_cons_succ]
              refine wpAnyH_take (i := 18) (v := ?_) rfl (by kernel_rfl) (by kernel_rfl) (by kernel_rfl) (fun _ _ _ h => h) (Or.inl ⟨by rfl, ?hy⟩) (by assumption) ?_
              case hy => intro w hSw; (try dsimp only at hSw); go_simp; try with_reducible rfl
              try simp only [Act.put, List.getElem_toArray, List.getElem_cons_succ, List.getElem_cons_zero, List.setIfInBounds_toArray, List.set_cons_zero, List.set_cons_succ]
              refine wpAnyH_take (i := 19) (v := ?_) rfl (by kernel_rfl) (by kernel_rfl) (by kernel_rfl) (fun _ _ _ h => h) (Or.inl ⟨by rfl, ?hy⟩) (by assumption) ?_
              case hy => intro w hSw; (try dsimp only at hSw); go_simp; try with_reducible rfl
              try simp only [Act.put, List.getElem_toArray, List.getElem_cons_succ, List.getElem_cons_zero, List.setIfInBounds_toArray, List.set_cons_zero, List.set_cons_succ]
              refine wpAnyH_take (i := 20) (v := ?_) rfl (by kernel_rfl) (by kernel_rfl) (by kernel_rfl) (fun _ _ _ h => h) (Or.inl ⟨by rfl, ?hy⟩) (by assumption) ?_
              case hy => intro w hSw; (try dsimp only at hSw); go_simp; try with_reducible rfl
              try simp only [Act.put, List.getElem_toArray, List.getElem_cons_succ, List.getElem_cons_zero, List.setIfInBounds_toArray, List.set_cons_zero, List.set_cons_succ]
              refine wpAnyH_take (i := 21) (v := ?_) rfl (by kernel_rfl) (by kernel_rfl) (by kernel_rfl) (fun _ _ _ h => h) (Or.inl ⟨by rfl, ?hy⟩) (by assumption) ?_
              case hy => intro w hSw; (try dsimp only at hSw); go_simp; try with_reducible rfl
              try simp only [Act.put, List.getElem_toArray, List.getElem_cons_succ, List.getElem_cons_zero, List.setIfInBounds_toArray, List.set_cons_zero, List.set_cons_succ]
              refine wpAnyH_take (i := 22) (v := ?_) rfl (by kernel_rfl) (by kernel_rfl) (by kernel_rfl) (fun _ _ _ h => h) (Or.inl ⟨by rfl, ?hy⟩) (by assumption) ?_
              case hy => intro w hSw; (try dsimp only at hSw); go_simp; try with_reducible rfl
              try simp only [Act.put, List.getElem_toArray, List.getElem_cons_succ, List.getElem_cons_zero, List.setIfInBounds_toArray, List.set_cons_zero, List.set_cons_succ]
              refine wpAnyH_take (i := 23) (v := ?_) rfl (by kernel_rfl) (by kernel_rfl) (by kernel_rfl) (fun _ _ _ h => h) (Or.inl ⟨by rfl, ?hy⟩) (by assumption) ?_
              case hy => intro w hSw; (try dsimp only at hSw); go_simp; try with_reducible rfl
              try simp only [Act.put, List.getElem_toArray, List.getElem_cons_succ, List.getElem_cons_zero, List.setIfInBounds_toArray, List.set_cons_zero, List.set_cons_succ]
              refine wpAnyH_take (i := 24) (v := ?_) rfl (by kernel_rfl) (by kernel_rfl) (by kernel_rfl) (fun _ _ _ h => h) (Or.inl ⟨by rfl, ?hy⟩) (by assumption) ?_
              case hy => intro w hSw; (try dsimp only at hSw); go_simp; try with_reducible rfl
              try simp only [Act.put, List.getElem_toArray, List.getElem_cons_succ, List.getElem_cons_zero, List.setIfInBounds_toArray, List.set_cons_zero, List.set_cons_succ]
              refine wpAnyH_take (i := 25) (v := ?_) rfl (by kernel_rfl) (by kernel_rfl) (by kernel_rfl) (fun _ _ _ h => h) (Or.inl ⟨by rfl, ?hy⟩) (by assumption) ?_
              case hy => intro w hSw; (try dsimp only at hSw); go_simp; try with_reducible rfl
              try simp only [Act.put, List.getElem_toArray, List.getElem_cons_succ, List.getElem_cons_zero, List.setIfInBounds_toArray, List.set_cons_zero, List.set_cons_succ]
              refine wpAnyH_take (i := 26) (v := ?_) rfl (by kernel_rfl) (by kernel_rfl) (by kernel_rfl) (fun _ _ _ h => h) (Or.inl ⟨by rfl, ?hy⟩) (by assumption) ?_
              case hy => intro w hSw; (try dsimp only at hSw); go_simp; try with_reducible rfl
              try simp only [Act.put, List.getElem_toArray, List.getElem_cons_succ, List.getElem_cons_zero, List.setIfInBounds_toArray, List.set_cons_zero, List.set_cons_succ]
              refine wpAnyH_take (i := 27) (v := ?_) rfl (by kernel_rfl) (by kernel_rfl) (by kernel_rfl) (fun _ _ _ h => h) (Or.inl ⟨by rfl, ?hy⟩) (by assumption) ?_
              case hy => intro w hSw; (try dsimp only at hSw); go_simp; try with_reducible rfl
              try simp only [Act.put, List.getElem_toArray, List.getElem_cons_succ, List.getElem_cons_zero, List.setIfInBounds_toArray, List.set_cons_zero, List.set_cons_succ]
              refine wpAnyH_take (i := 29) (v := ?_) rfl (by kernel_rfl) (by kernel_rfl) (by kernel_rfl) (fun _ _ _ h => h) (Or.inl ⟨by rfl, ?hy⟩) (by assumption) ?_
              case hy => intro w hSw; (try dsimp only at hSw); go_simp; try with_reducible rfl
              try simp only [Act.put, List.getElem_toArray, List.getElem_cons_succ, List.getElem_cons_zero, List.setIfInBounds_toArray, List.set_cons_zero, List.set_cons_succ]
              refine wpAnyH_take (i := 30) (v := ?_) rfl (by kernel_rfl) (by kernel_rfl) (by kernel_rfl) (fun _ _ _ h => h) (Or.inl ⟨by rfl, ?hy⟩) (by assumption) ?_
              case hy => intro w hSw; (try dsimp only at hSw); go_simp; try with_reducible rfl
              try simp only [Act.put, List.getElem_toArray, List.getElem_cons_succ, List.getElem_cons_zero, List.setIfInBounds_toArray, List.set_cons_zero, List.set_cons_succ]
              refine wpAnyH_take (i := 31) (v := ?_) rfl (by kernel_rfl) (by kernel_rfl) (by kernel_rfl) (fun _ _ _ h => h) (Or.inl ⟨by rfl, ?hy⟩) (by assumption) ?_
              case hy => intro w hSw; (try dsimp only at hSw); go_simp; try with_reducible rfl
              try simp only [Act.put, List.getElem_toArray, List.getElem_cons_succ, List.getElem_cons_zero, List.setIfInBounds_toArray, List.set_cons_zero, List.set_cons_succ]
              refine wpAnyH_take (i := 32) (v := ?_) rfl (by kernel_rfl) (by kernel_rfl) (by kernel_rfl) (fun _ _ _ h => h) (Or.inl ⟨by rfl, ?hy⟩) (by assumption) ?_
              case hy => intro w hSw; (try dsimp only at hSw); go_simp; try with_reducible rfl
              try simp only [Act.put, List.getElem_toArray, List.getElem_cons_succ, List.getElem_cons_zero, List.setIfInBounds_toArray, List.set_cons_zero, List.set_cons_succ]
              refine wpAnyH_take (i := 33) (v := ?_) rfl (by kernel_rfl) (by kernel_rfl) (by kernel_rfl) (fun _ _ _ h => h) (Or.inl ⟨by rfl, ?hy⟩) (by assumption) ?_
              case hy => intro w hSw; (try dsimp only at hSw); go_simp; try with_reducible rfl
              try simp only [Act.put, List.getElem_toArray, List.getElem_cons_succ, List.getElem_cons_zero, List.setIfInBounds_toArray, List.set_cons_zero, List.set_cons_succ]
              refine wpAnyH_take (i := 34) (v := ?_) rfl (by kernel_rfl) (by kernel_rfl) (by kernel_rfl) (fun _ _ _ h => h) (Or.inl ⟨by rfl, ?hy⟩) (by assumption) ?_
              case hy => intro w hSw; (try dsimp only at hSw); go_simp; try with_reducible rfl
              try simp only [Act.put, List.getElem_toArray, List.getElem_cons_succ, List.getElem_cons_zero, List.setIfInBounds_toArray, List.set_cons_zero, List.set_cons_succ]
              refine wpAnyH_take (i := 35) (v := ?_) rfl (by kernel_rfl) (by kernel_rfl) (by kernel_rfl) (fun _ _ _ h => h) (Or.inl ⟨by rfl, ?hy⟩) (by assumption) ?_
              case hy => intro w hSw; (try dsimp only at hSw); go_simp; try with_reducible rfl
              try simp only [Act.put, List.getElem_toArray, List.getElem_cons_succ, List.getElem_cons_zero, List.setIfInBounds_toArray, List.set_cons_zero, List.set_cons_succ]
              refine wpAnyH_take (i := 36) (v := ?_) rfl (by kernel_rfl) (by kernel_rfl) (by kernel_rfl) (fun _ _ _ h => h) (Or.inl ⟨by rfl, ?hy⟩) (by assumption) ?_
              case hy => intro w hSw; (try dsimp only at hSw); go_simp; try with_reducible rfl
              try simp only [Act.put, List.getElem_toArray, List.getElem_cons_succ, List.getElem_cons_zero, List.setIfInBounds_toArray, List.set_cons_zero, List.set_cons_succ]
              refine wpAnyH_ready (rs := [28]) (by kernel_rfl) (by simp) (AllReadyH.cons rfl (fun K hK => ?_) AllReadyH.nil)
              go_simp
              go_at_call 11; refine (HX3.out _).mono ?_; rintro e wq ⟨rfl, hbq⟩
              try (go_wp2_with fail)
              refine hK.out _ _ ?_ (fun hHeld => ?_)
              · exact SB.out _ (hHeld.2.2.2.trans (hbq.mono hHeld.2.2.2.size))
              clear hK K
              try simp only [Act.put, List.getElem_toArray, List.getElem_cons_succ, List.getElem_cons_zero, List.setIfInBounds_toArray, List.set_cons_zero, List.set_cons_succ]
              refine wpAnyH_ready (rs := [37]) (by kernel_rfl) (by simp) (AllReadyH.cons rfl (fun K hK => ?_) AllReadyH.nil)
              go_simp
              go_at_call 28; refine (HX4.out _).mono ?_; rintro e wq ⟨rfl, hbq⟩
              try (go_wp2_with fail)
              refine hK.out _ _ ?_ (fun hHeld => ?_)
              · exact SB.out _ (hHeld.2.2.2.trans (hbq.mono hHeld.2.2.2.size))
              clear hK K
              try simp only [Act.put, List.getElem_toArray, List.getElem_cons_succ, List.getElem_cons_zero, List.setIfInBounds_toArray, List.set_cons_zero, List.set_cons_succ]
              refine wpAnyH_take (i := 38) (v := ?_) rfl (by kernel_rfl) (by kernel_rfl) (by kernel_rfl) (fun _ _ _ h => h) (Or.inl ⟨by rfl, ?hy⟩) (by assumption) ?_
              case hy => intro w hSw; (try dsimp only at hSw); go_simp; try with_reducible rfl
              try simp only [Act.put, List.getElem_toArray, List.getElem_cons_succ, List.getElem_cons_zero, List.setIfInBounds_toArray, List.set_cons_zero, List.set_cons_succ]
              refine wpAnyH_take (i := 39) (v := ?_) rfl (by kernel_rfl) (by kernel_rfl) (by kernel_rfl) (fun _ _ _ h => h) (Or.inl ⟨by rfl, ?hy⟩) (by assumption) ?_
              case hy => intro w hSw; (try dsimp only at hSw); go_simp; try with_reducible rfl
              try simp only [Act.put, List.getElem_toArray, List.getElem_cons_succ, List.getElem_cons_zero, List.setIfInBounds_toArray, List.set_cons_zero, List.set_cons_succ]
              refine wpAnyH_done (by kernel_rfl) ?_ _
              refine NoPanic.normal ?_
              go_wp2_with (fail)
              exact ⟨⟨j + 1, by omega, by go_num, Lib.hid hHeld.2.2.2⟩, by first | (simp [intOf]; done) | (simp [intOf]; omega)⟩
          · have kp : ¬ (0 : Int) < k := by omega
            go_wp2_with (fail)
            go_ret
            exact ⟨rfl, HWY.out.trans (HBZ.out.mono HWY.out.size)⟩
        · have j1 : ¬ (j : Int) < ln := by omega
          go_wp2_with (fail)
          go_ret
          exact ⟨rfl, HWY.out.trans (HBZ.out.mono HWY.out.size)⟩
end Go.Proofs.Ytnobfmlfhaaghaa