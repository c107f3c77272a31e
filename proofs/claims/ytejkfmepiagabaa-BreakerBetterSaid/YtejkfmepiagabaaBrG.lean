/- BreakerEnds: ends of entries while it is open change nothing. -/
import Derived.Test.YtejkfmepiagabaaBrF
import Derived.Test.YtejkfmepiagabaaRecs
namespace Go.Proofs.Ytejkfmepiagabaa
open Go.RowKit
set_option linter.unusedVariables false
set_option linter.unusedSimpArgs false

theorem bdoneS_open {r : BreakS} {s : BrS} (h : s.st ≠ 1) (at_ rt : Int) (failed : Bool) : (bdoneS r s at_ rt failed false).st = s.st ∧ (bdoneS r s at_ rt failed false).un = s.un ∧ (bdoneS r s at_ rt failed false).tr = s.tr := by
  unfold bdoneS
  split
  · simp [h]
  · exact ⟨rfl, rfl, rfl⟩
/-- A row of deeds that came in: five cells each. -/
structure DeedsB (w : World) (a : Option Addr) (len : Nat) (K A R : Nat → Int) (F P : Nat → Bool) : Prop where
  at' : len = 0 ∨ ∃ b off, a = some ⟨b, off, none⟩ ∧ b < w.heap.size ∧ ∀ j, j < len → w.cell? ⟨b, off + j * 5, none⟩ = some (.int .i64 (K j)) ∧ w.cell? ⟨b, off + j * 5 + 1, none⟩ = some (.int .i64 (A j)) ∧ w.cell? ⟨b, off + j * 5 + 2, none⟩ = some (.int .i64 (R j)) ∧ w.cell? ⟨b, off + j * 5 + 3, none⟩ = some (.bool (F j)) ∧ w.cell? ⟨b, off + j * 5 + 4, none⟩ = some (.bool (P j))
theorem deedsB {w : World} {a : Option Addr} {len : Nat} {V : Nat → Nat → Value} (hr : RecsAt w a 5 len V)
    (h0 : ∀ j, j < len → V j 0 = .int .i64 (intOf (V j 0)) ∧ (Lit.int .i64 (intOf (V j 0))).wf = true) (h1 : ∀ j, j < len → V j 1 = .int .i64 (intOf (V j 1)) ∧ (Lit.int .i64 (intOf (V j 1))).wf = true)
    (h2 : ∀ j, j < len → V j 2 = .int .i64 (intOf (V j 2)) ∧ (Lit.int .i64 (intOf (V j 2))).wf = true) (h3 : ∀ j, j < len → V j 3 = .bool (boolOf (V j 3))) (h4 : ∀ j, j < len → V j 4 = .bool (boolOf (V j 4))) :
    DeedsB w a len (fun j => intOf (V j 0)) (fun j => intOf (V j 1)) (fun j => intOf (V j 2)) (fun j => boolOf (V j 3)) (fun j => boolOf (V j 4)) := by
  refine ⟨?_⟩
  rcases hr with h | ⟨b, off, rfl, hb, hc⟩
  · exact Or.inl h
  · refine Or.inr ⟨b, off, rfl, hb, fun j hj => ⟨?_, ?_, ?_, ?_, ?_⟩⟩
    · have := hc j hj 0 (by decide); rw [(h0 j hj).1] at this; exact this
    · have := hc j hj 1 (by decide); rw [(h1 j hj).1] at this; exact this
    · have := hc j hj 2 (by decide); rw [(h2 j hj).1] at this; exact this
    · have := hc j hj 3 (by decide); rw [h3 j hj] at this; exact this
    · have := hc j hj 4 (by decide); rw [h4 j hj] at this; exact this
theorem DeedsB.of {w : World} {a : Option Addr} {len : Nat} {K A R : Nat → Int} {F P : Nat → Bool} (h : DeedsB w a len K A R F P) {j : Nat} (hj : j < len) : ∃ b off, a = some ⟨b, off, none⟩ ∧ ∀ wx, Below w.heap.size w wx → wx.cell? ⟨b, off + j * 5, none⟩ = some (.int .i64 (K j)) ∧ wx.cell? ⟨b, off + j * 5 + 1, none⟩ = some (.int .i64 (A j)) ∧ wx.cell? ⟨b, off + j * 5 + 2, none⟩ = some (.int .i64 (R j)) ∧ wx.cell? ⟨b, off + j * 5 + 3, none⟩ = some (.bool (F j)) ∧ wx.cell? ⟨b, off + j * 5 + 4, none⟩ = some (.bool (P j)) := by
  rcases h.at' with h | ⟨b, off, e, hb, hc⟩
  · omega
  · obtain ⟨c0, c1, c2, c3, c4⟩ := hc j hj
    exact ⟨b, off, e, fun wx hx => ⟨(hx.cell (p := ⟨b, off + j * 5, none⟩) hb).trans c0, (hx.cell (p := ⟨b, off + j * 5 + 1, none⟩) hb).trans c1, (hx.cell (p := ⟨b, off + j * 5 + 2, none⟩) hb).trans c2, (hx.cell (p := ⟨b, off + j * 5 + 3, none⟩) hb).trans c3, (hx.cell (p := ⟨b, off + j * 5 + 4, none⟩) hb).trans c4⟩⟩

set_option maxHeartbeats 12800000 in
set_option maxRecDepth 100000 in
theorem brends_run (w : World) (r : BreakS) (hz : r.res.size ≤ maxLen) (a : Option Addr) (len cap : Nat) (hm : len ≤ 140737488351232) (K A R : Nat → Int) (F P : Nat → Bool) (hd : DeedsB w a len K A R F P)
    (a2 : Option Addr) (len2 cap2 : Nat) (hm2 : len2 ≤ 140737488351232) (K2 A2 R2 : Nat → Int) (F2 P2 : Nat → Bool) (hd2 : DeedsB w a2 len2 K2 A2 R2 F2 P2) :
    Calls Try.prog 8 #[r.v, .slice a len cap, .slice a2 len2 cap2] w fun e w' => e = .returned (.bool true) ∧ Below w.heap.size w w' := by
  have HD1 := Lib.hid hd
  have HD2 := Lib.hid hd2
  have HZ := Lib.hid hz
  have hbx : Below w.heap.size w (w.alloc (brkO r)) := (Below.refl _ _).alloc (Nat.le_refl _) _
  have hN : (w.alloc (brkO r)).heap[w.heap.size]? = some (brkO r) := (get_allocW w _ _).trans (if_pos rfl)
  have hnz : w.heap.size < (w.alloc (brkO r)).heap.size := by simp
  have HBX := Lib.hid hbx
  have HN := Lib.hid hN
  have HNZ := Lib.hid hnz
  have HNO := Lib.hid (fun (wx : World) (hb : Below w.heap.size w wx) => bin_no r hz hb)
  have HYES := Lib.hid (fun (wx : World) (hb : Below w.heap.size w wx) => bin_new r hz hb)
  obtain ⟨E, hEE⟩ : ∃ E, breakE r = E := ⟨_, rfl⟩
  rw [hEE] at HNO HYES
  clear hd hd2 hz hbx hN hnz hEE
  obtain ⟨rn, rg, rc, rs, rl, rw_, rr⟩ := r
  unfold brkO BreakS.cells at HBX HN HNZ
  unfold BreakS.v BreakS.cells at HNO HYES
  unfold BreakS.v BreakS.cells
  dsimp only at HBX HN HNZ HNO HYES ⊢
  go_enter Try.func8, Try.ntmps8
  go_wp2_with (fail)
  refine (brlive_any _).mono ?_
  rintro e w1 ⟨rfl, h1⟩
  have hn1 := (h1.block w.heap.size HNZ.out).trans HN.out
  have c0 : w1.cell? ⟨w.heap.size, 0, none⟩ = some (.string rn) := by simp only [World.cell?, hn1]; rfl
  have c1 : w1.cell? ⟨w.heap.size, 1, none⟩ = some (.int .u8 rg) := by simp only [World.cell?, hn1]; rfl
  have c2 : w1.cell? ⟨w.heap.size, 2, none⟩ = some (.int .i64 rc) := by simp only [World.cell?, hn1]; rfl
  have c3 : w1.cell? ⟨w.heap.size, 3, none⟩ = some (.int .i64 rs) := by simp only [World.cell?, hn1]; rfl
  have c4 : w1.cell? ⟨w.heap.size, 4, none⟩ = some (.int .i64 rl) := by simp only [World.cell?, hn1]; rfl
  have c5 : w1.cell? ⟨w.heap.size, 5, none⟩ = some (.int .i64 rw_) := by simp only [World.cell?, hn1]; rfl
  have c6 : w1.cell? ⟨w.heap.size, 6, none⟩ = some (.int .i64 rr) := by simp only [World.cell?, hn1]; rfl
  have HB1 := Lib.hid (HBX.out.trans (h1.mono HBX.out.size))
  clear hn1 h1 HBX HN HNZ
  go_wp2_with (fail)
  clear c0 c1 c2 c3 c4 c5 c6
  by_cases hE : E = 0
  · refine (HYES.out _ HB1.out hE).mono ?_
    rintro e w2 ⟨q, rfl, h2, _⟩
    have HB2 := Lib.hid h2
    clear HNO HYES hE h2 HB1
    go_wp2_with (fail)
    generalize (⟨rn, rg, rc, rs, rl, rw_, rr⟩ : BreakS) = r at *
    go_loopw [9] (fun i wr => ∃ (j : Nat) (s : BrS), j ≤ len ∧ i = .int .i64 j ∧ Hid (BrIn w wr q r s)) (fun i _ => len - (intOf i).toNat)
    case atStart => exact ⟨0, _, Nat.zero_le _, rfl, HB2⟩
    case round =>
      rename World => wy
      clear HB2
      obtain ⟨j, s, hj, rfl, HB⟩ := hrel
      by_cases hlt : j < len
      · have j0 : (0 : Int) ≤ j := by omega
        have j1 : (j : Int) < len := by omega
        obtain ⟨b0, off, ha, hcc⟩ := HD1.out.of hlt
        subst ha
        have HCC := Lib.hid hcc
        obtain ⟨d0, d1, d2, d3, d4⟩ := HCC.out wy HB.out.bel
        generalize K j = KD at *
        generalize A j = AT at *
        generalize R j = RT at *
        generalize F j = FB at *
        generalize P j = PB at *
        clear hcc
        by_cases hK0 : KD = 0
        · subst hK0
          have HO := Lib.hid (bin_enter HB.out AT)
          go_wp2_with (fail)
          refine HO.out.mono ?_
          rintro e w3 ⟨rfl, h3⟩
          have H3 := Lib.hid h3
          clear h3 HO
          go_wp2_with (fail)
          exact ⟨⟨j + 1, _, by omega, by go_num, H3⟩, by first | (simp [intOf]; done) | (simp [intOf]; omega)⟩
        · by_cases hK1 : KD = 1
          · subst hK1
            have HO := Lib.hid (bin_done (HB.out.below (Below.refl wy.heap.size wy).drew) AT RT FB PB)
            go_wp2_with (fail)
            refine wp_region_noPanic ?_
            refine wp_region_held_drew (S := fun wx => wx.cell? ⟨b0, off + j * 5, none⟩ = some (.int .i64 1) ∧ wx.cell? ⟨b0, off + j * 5 + 1, none⟩ = some (.int .i64 AT) ∧ wx.cell? ⟨b0, off + j * 5 + 2, none⟩ = some (.int .i64 RT) ∧ wx.cell? ⟨b0, off + j * 5 + 3, none⟩ = some (.bool FB) ∧ wx.cell? ⟨b0, off + j * 5 + 4, none⟩ = some (.bool PB)) (by kernel_rfl) ?_ (fun hHeld => ?_)
            · exact ⟨d0, d1, d2, d3, d4⟩
            refine wpAnyH_take (i := 0) (v := ?_) rfl (by kernel_rfl) (by kernel_rfl) (by kernel_rfl) (fun _ _ _ h => h) (Or.inl ⟨by rfl, ?hy⟩) (by assumption) ?_
            case hy => intro w hSw; (try dsimp only at hSw); go_simp; try with_reducible rfl
            try simp only [Act.put, List.getElem_toArray, List.getElem_cons_succ, List.getElem_cons_zero, List.setIfInBounds_toArray, List.set_cons_zero, List.set_cons_succ]
            refine wpAnyH_take (i := 1) (v := ?_) rfl (by kernel_rfl) (by kernel_rfl) (by kernel_rfl) (fun _ _ _ h => h) (Or.inl ⟨by rfl, ?hy⟩) (by assumption) ?_
            case hy => intro w hSw; (try dsimp only at hSw); go_simp; try with_reducible rfl
            try simp only [Act.put, List.getElem_toArray, List.getElem_cons_succ, List.getElem_cons_zero, List.setIfInBounds_toArray, List.set_cons_zero, List.set_cons_succ]
            refine wpAnyH_take (i := 2) (v := ?_) rfl (by kernel_rfl) (by kernel_rfl) (by kernel_rfl) (fun _ _ _ h => h) (Or.inl ⟨by rfl, ?hy⟩) (by assumption) ?_
            case hy => intro w hSw; (try dsimp only at hSw); go_simp; try with_reducible rfl
            try simp only [Act.put, List.getElem_toArray, List.getElem_cons_succ, List.getElem_cons_zero, List.setIfInBounds_toArray, List.set_cons_zero, List.set_cons_succ]
            refine wpAnyH_take (i := 3) (v := ?_) rfl (by kernel_rfl) (by kernel_rfl) (by kernel_rfl) (fun _ _ _ h => h) (Or.inl ⟨by rfl, ?hy⟩) (by assumption) ?_
            case hy => intro w hSw; (try dsimp only at hSw); go_simp; try with_reducible rfl
            try simp only [Act.put, List.getElem_toArray, List.getElem_cons_succ, List.getElem_cons_zero, List.setIfInBounds_toArray, List.set_cons_zero, List.set_cons_succ]
            refine wpAnyH_take (i := 4) (v := ?_) rfl (by kernel_rfl) (by kernel_rfl) (by kernel_rfl) (fun _ _ _ h => h) (Or.inl ⟨by rfl, ?hy⟩) (by assumption) ?_
            case hy => intro w hSw; (try dsimp only at hSw); go_simp; try with_reducible rfl
            try simp only [Act.put, List.getElem_toArray, List.getElem_cons_succ, List.getElem_cons_zero, List.setIfInBounds_toArray, List.set_cons_zero, List.set_cons_succ]
            refine wpAnyH_take (i := 5) (v := ?_) rfl (by kernel_rfl) (by kernel_rfl) (by kernel_rfl) (fun _ _ _ h => h) (Or.inl ⟨by rfl, ?hy⟩) (by assumption) ?_
            case hy => intro w hSw; (try dsimp only at hSw); go_simp; try with_reducible rfl
            try simp only [Act.put, List.getElem_toArray, List.getElem_cons_succ, List.getElem_cons_zero, List.setIfInBounds_toArray, List.set_cons_zero, List.set_cons_succ]
            refine wpAnyH_take (i := 6) (v := ?_) rfl (by kernel_rfl) (by kernel_rfl) (by kernel_rfl) (fun _ _ _ h => h) (Or.inl ⟨by rfl, ?hy⟩) (by assumption) ?_
            case hy => intro w hSw; (try dsimp only at hSw); go_simp; try with_reducible rfl
            try simp only [Act.put, List.getElem_toArray, List.getElem_cons_succ, List.getElem_cons_zero, List.setIfInBounds_toArray, List.set_cons_zero, List.set_cons_succ]
            refine wpAnyH_take (i := 7) (v := ?_) rfl (by kernel_rfl) (by kernel_rfl) (by kernel_rfl) (fun _ _ _ h => h) (Or.inl ⟨by rfl, ?hy⟩) (by assumption) ?_
            case hy => intro w hSw; (try dsimp only at hSw); go_simp; try with_reducible rfl
            try simp only [Act.put, List.getElem_toArray, List.getElem_cons_succ, List.getElem_cons_zero, List.setIfInBounds_toArray, List.set_cons_zero, List.set_cons_succ]
            refine wpAnyH_take (i := 8) (v := ?_) rfl (by kernel_rfl) (by kernel_rfl) (by kernel_rfl) (fun _ _ _ h => h) (Or.inl ⟨by rfl, ?hy⟩) (by assumption) ?_
            case hy => intro w hSw; (try dsimp only at hSw); go_simp; try with_reducible rfl
            try simp only [Act.put, List.getElem_toArray, List.getElem_cons_succ, List.getElem_cons_zero, List.setIfInBounds_toArray, List.set_cons_zero, List.set_cons_succ]
            refine wpAnyH_take (i := 9) (v := ?_) rfl (by kernel_rfl) (by kernel_rfl) (by kernel_rfl) (fun _ _ _ h => h) (Or.inl ⟨by rfl, ?hy⟩) (by assumption) ?_
            case hy => intro w hSw; (try dsimp only at hSw); go_simp; try with_reducible rfl
            try simp only [Act.put, List.getElem_toArray, List.getElem_cons_succ, List.getElem_cons_zero, List.setIfInBounds_toArray, List.set_cons_zero, List.set_cons_succ]
            refine wpAnyH_take (i := 10) (v := ?_) rfl (by kernel_rfl) (by kernel_rfl) (by kernel_rfl) (fun _ _ _ h => h) (Or.inl ⟨by rfl, ?hy⟩) (by assumption) ?_
            case hy => intro w hSw; (try dsimp only at hSw); go_simp; try with_reducible rfl
            try simp only [Act.put, List.getElem_toArray, List.getElem_cons_succ, List.getElem_cons_zero, List.setIfInBounds_toArray, List.set_cons_zero, List.set_cons_succ]
            refine wpAnyH_take (i := 11) (v := ?_) rfl (by kernel_rfl) (by kernel_rfl) (by kernel_rfl) (fun _ _ _ h => h) (Or.inl ⟨by rfl, ?hy⟩) (by assumption) ?_
            case hy => intro w hSw; (try dsimp only at hSw); go_simp; try with_reducible rfl
            try simp only [Act.put, List.getElem_toArray, List.getElem_cons_succ, List.getElem_cons_zero, List.setIfInBounds_toArray, List.set_cons_zero, List.set_cons_succ]
            refine wpAnyH_take (i := 12) (v := ?_) rfl (by kernel_rfl) (by kernel_rfl) (by kernel_rfl) (fun _ _ _ h => h) (Or.inl ⟨by rfl, ?hy⟩) (by assumption) ?_
            case hy => intro w hSw; (try dsimp only at hSw); go_simp; try with_reducible rfl
            try simp only [Act.put, List.getElem_toArray, List.getElem_cons_succ, List.getElem_cons_zero, List.setIfInBounds_toArray, List.set_cons_zero, List.set_cons_succ]
            refine wpAnyH_take (i := 13) (v := ?_) rfl (by kernel_rfl) (by kernel_rfl) (by kernel_rfl) (fun _ _ _ h => h) (Or.inl ⟨by rfl, ?hy⟩) (by assumption) ?_
            case hy => intro w hSw; (try dsimp only at hSw); go_simp; try with_reducible rfl
            try simp only [Act.put, List.getElem_toArray, List.getElem_cons_succ, List.getElem_cons_zero, List.setIfInBounds_toArray, List.set_cons_zero, List.set_cons_succ]
            refine wpAnyH_take (i := 14) (v := ?_) rfl (by kernel_rfl) (by kernel_rfl) (by kernel_rfl) (fun _ _ _ h => h) (Or.inl ⟨by rfl, ?hy⟩) (by assumption) ?_
            case hy => intro w hSw; (try dsimp only at hSw); go_simp; try with_reducible rfl
            try simp only [Act.put, List.getElem_toArray, List.getElem_cons_succ, List.getElem_cons_zero, List.setIfInBounds_toArray, List.set_cons_zero, List.set_cons_succ]
            refine wpAnyH_take (i := 15) (v := ?_) rfl (by kernel_rfl) (by kernel_rfl) (by kernel_rfl) (fun _ _ _ h => h) (Or.inl ⟨by rfl, ?hy⟩) (by assumption) ?_
            case hy => intro w hSw; (try dsimp only at hSw); go_simp; try with_reducible rfl
            try simp only [Act.put, List.getElem_toArray, List.getElem_cons_succ, List.getElem_cons_zero, List.setIfInBounds_toArray, List.set_cons_zero, List.set_cons_succ]
            refine wpAnyH_take (i := 16) (v := ?_) rfl (by kernel_rfl) (by kernel_rfl) (by kernel_rfl) (fun _ _ _ h => h) (Or.inl ⟨by rfl, ?hy⟩) (by assumption) ?_
            case hy => intro w hSw; (try dsimp only at hSw); go_simp; try with_reducible rfl
            try simp only [Act.put, List.getElem_toArray, List.getElem_cons_succ, List.getElem_cons_zero, List.setIfInBounds_toArray, List.set_cons_zero, List.set_cons_succ]
            refine wpAnyH_take (i := 17) (v := ?_) rfl (by kernel_rfl) (by kernel_rfl) (by kernel_rfl) (fun _ _ _ h => h) (Or.inl ⟨by rfl, ?hy⟩) (by assumption) ?_
            case hy => intro w hSw; (try dsimp only at hSw); go_simp; try with_reducible rfl
            try simp only [Act.put, List.getElem_toArray, List.getElem_cons_succ, List.getElem_cons_zero, List.setIfInBounds_toArray, List.set_cons_zero, List.set_cons_succ]
            refine wpAnyH_take (i := 18) (v := ?_) rfl (by kernel_rfl) (by kernel_rfl) (by kernel_rfl) (fun _ _ _ h => h) (Or.inl ⟨by rfl, ?hy⟩) (by assumption) ?_
            case hy => intro w hSw; (try dsimp only at hSw); go_simp; try with_reducible rfl
            try simp only [Act.put, List.getElem_toArray, List.getElem_cons_succ, List.getElem_cons_zero, List.setIfInBounds_toArray, List.set_cons_zero, List.set_cons_succ]
            refine wpAnyH_take (i := 19) (v := ?_) rfl (by kernel_rfl) (by kernel_rfl) (by kernel_rfl) (fun _ _ _ h => h) (Or.inl ⟨by rfl, ?hy⟩) (by assumption) ?_
            case hy => intro w hSw; (try dsimp only at hSw); go_simp; try with_reducible rfl
            try simp only [Act.put, List.getElem_toArray, List.getElem_cons_succ, List.getElem_cons_zero, List.setIfInBounds_toArray, List.set_cons_zero, List.set_cons_succ]
            refine wpAnyH_take (i := 20) (v := ?_) rfl (by kernel_rfl) (by kernel_rfl) (by kernel_rfl) (fun _ _ _ h => h) (Or.inl ⟨by rfl, ?hy⟩) (by assumption) ?_
            case hy => intro w hSw; (try dsimp only at hSw); go_simp; try with_reducible rfl
            try simp only [Act.put, List.getElem_toArray, List.getElem_cons_succ, List.getElem_cons_zero, List.setIfInBounds_toArray, List.set_cons_zero, List.set_cons_succ]
            refine wpAnyH_ready (rs := [21]) (by kernel_rfl) (by simp) (AllReadyH.cons rfl (fun K hK => ?_) AllReadyH.nil)
            go_simp
            refine HO.out.mono ?_
            rintro e w3 ⟨rfl, h3⟩
            have H3 := Lib.hid h3
            clear h3 HO
            try (go_wp2_with fail)
            refine hK.out _ _ ?_ (fun hHeld => ?_)
            · exact HCC.out _ H3.out.bel
            clear hK K
            try simp only [Act.put, List.getElem_toArray, List.getElem_cons_succ, List.getElem_cons_zero, List.setIfInBounds_toArray, List.set_cons_zero, List.set_cons_succ]
            refine wpAnyH_done (by kernel_rfl) ?_ _
            refine NoPanic.normal ?_
            go_wp2_with (fail)
            exact ⟨⟨j + 1, _, by omega, by go_num, H3⟩, by first | (simp [intOf]; done) | (simp [intOf]; omega)⟩
          · by_cases hK2 : KD = 2
            · subst hK2
              have HO := Lib.hid (bin_give HB.out AT)
              go_wp2_with (fail)
              refine HO.out.mono ?_
              rintro e w3 ⟨rfl, h3⟩
              have H3 := Lib.hid h3
              clear h3 HO
              go_wp2_with (fail)
              exact ⟨⟨j + 1, _, by omega, by go_num, H3⟩, by first | (simp [intOf]; done) | (simp [intOf]; omega)⟩
            · have q0 : (KD == 0) = false := by simpa using hK0
              have q1 : (KD == 1) = false := by simpa using hK1
              have q2 : (KD == 2) = false := by simpa using hK2
              go_wp2_with (fail)
              exact ⟨⟨j + 1, _, by omega, by go_num, HB⟩, by first | (simp [intOf]; done) | (simp [intOf]; omega)⟩
      · have j1 : ¬ (j : Int) < len := by omega
        have HS := Lib.hid (bin_state HB.out)
        have HU := Lib.hid (bin_until HB.out)
        have HT := Lib.hid (bin_trips HB.out)
        have HO9 := Lib.hid (fun (h : s.st ≠ 1) => bdoneS_open (r := r) h)
        have HUN := Lib.hid (fun (s' : BrS) (h1 : s'.st = s.st) (h2 : s'.un = s.un) => show untilN s' = untilN s by unfold untilN; rw [h1, h2])
        obtain ⟨ST, hST⟩ : ∃ ST, s.st = ST := ⟨_, rfl⟩
        obtain ⟨UN, hUN⟩ : ∃ UN, untilN s = UN := ⟨_, rfl⟩
        obtain ⟨TR, hTR⟩ : ∃ TR, s.tr = TR := ⟨_, rfl⟩
        have HST := Lib.hid hST
        have HTR := Lib.hid hTR
        have HUU := Lib.hid hUN
        rw [hST] at HS
        rw [hUN, hST] at HU
        rw [hTR] at HT
        clear hST hUN hTR
        by_cases h1 : ST = 1
        · subst h1
          go_wp2_with (fail)
          refine HS.out.mono ?_
          rintro e wq ⟨rfl, hq⟩
          have hq := hq.symm
          subst hq
          go_wp2_with (fail)
          refine HU.out.mono ?_
          rintro e wq ⟨rfl, hq⟩
          have hq := hq.symm
          subst hq
          go_wp2_with (fail)
          refine HT.out.mono ?_
          rintro e wq ⟨rfl, hq⟩
          have hq := hq.symm
          subst hq
          go_wp2_with (fail)
          go_ret
          exact ⟨rfl, HB.out.bel⟩
        · have hne : (ST == 1) = false := by simpa using h1
          have HNE := Lib.hid (show s.st ≠ 1 by rw [HST.out]; exact h1)
          go_wp2_with (fail)
          refine HS.out.mono ?_
          rintro e wq ⟨rfl, hq⟩
          have hq := hq.symm
          subst hq
          go_wp2_with (fail)
          refine HU.out.mono ?_
          rintro e wq ⟨rfl, hq⟩
          have hq := hq.symm
          subst hq
          go_wp2_with (fail)
          refine HT.out.mono ?_
          rintro e wq ⟨rfl, hq⟩
          have hq := hq.symm
          subst hq
          go_wp2_with (fail)
          clear HS HU HT hne h1
          go_loopw [14] (fun i wr => ∃ (j : Nat) (s' : BrS), j ≤ len2 ∧ i = .int .i64 j ∧ Hid (BrIn w wr q r s') ∧ Hid (s'.st = s.st ∧ s'.un = s.un ∧ s'.tr = s.tr)) (fun i _ => len2 - (intOf i).toNat)
          case atStart => exact ⟨0, _, Nat.zero_le _, rfl, HB, Lib.hid ⟨rfl, rfl, rfl⟩⟩
          case round =>
            rename World => wz
            clear HB
            obtain ⟨i, s', hi, rfl, HB, HEQ⟩ := hrel
            by_cases hlt2 : i < len2
            · have i0 : (0 : Int) ≤ i := by omega
              have i1 : (i : Int) < len2 := by omega
              obtain ⟨b0, off, ha, hcc⟩ := HD2.out.of hlt2
              subst ha
              have HCC := Lib.hid hcc
              obtain ⟨d0, d1, d2, d3, d4⟩ := HCC.out wz HB.out.bel
              generalize K2 i = KD at *
              generalize A2 i = AT at *
              generalize R2 i = RT at *
              generalize F2 i = FB at *
              generalize P2 i = PB at *
              clear hcc
              have HO := Lib.hid (bin_done (HB.out.below (Below.refl wz.heap.size wz).drew) AT RT FB false)
              have HE2 := Lib.hid (show (bdoneS r s' AT RT FB false).st = s.st ∧ (bdoneS r s' AT RT FB false).un = s.un ∧ (bdoneS r s' AT RT FB false).tr = s.tr by
                obtain ⟨k1, k2, k3⟩ := HEQ.out
                obtain ⟨l1, l2, l3⟩ := bdoneS_open (r := r) (s := s') (by rw [k1]; exact HNE.out) AT RT FB
                exact ⟨l1.trans k1, l2.trans k2, l3.trans k3⟩)
              go_wp2_with (fail)
              refine wp_region_noPanic ?_
              refine wp_region_held_drew (S := fun wx => wx.cell? ⟨b0, off + i * 5, none⟩ = some (.int .i64 KD) ∧ wx.cell? ⟨b0, off + i * 5 + 1, none⟩ = some (.int .i64 AT) ∧ wx.cell? ⟨b0, off + i * 5 + 2, none⟩ = some (.int .i64 RT) ∧ wx.cell? ⟨b0, off + i * 5 + 3, none⟩ = some (.bool FB) ∧ wx.cell? ⟨b0, off + i * 5 + 4, none⟩ = some (.bool PB)) (by kernel_rfl) ?_ (fun hHeld => ?_)
              · exact ⟨d0, d1, d2, d3, d4⟩
              refine wpAnyH_take (i := 0) (v := ?_) rfl (by kernel_rfl) (by kernel_rfl) (by kernel_rfl) (fun _ _ _ h => h) (Or.inl ⟨by rfl, ?hy⟩) (by assumption) ?_
              case hy => intro w hSw; (try dsimp only at hSw); go_simp; try with_reducible rfl
              try simp only [Act.put, List.getElem_toArray, List.getElem_cons_succ, List.getElem_cons_zero, List.setIfInBounds_toArray, List.set_cons_zero, List.set_cons_succ]
              refine wpAnyH_take (i := 1) (v := ?_) rfl (by kernel_rfl) (by kernel_rfl) (by kernel_rfl) (fun _ _ _ h => h) (Or.inl ⟨by rfl, ?hy⟩) (by assumption) ?_
              case hy => intro w hSw; (try dsimp only at hSw); go_simp; try with_reducible rfl
              try simp only [Act.put, List.getElem_toArray, List.getElem_cons_succ, List.getElem_cons_zero, List.setIfInBounds_toArray, List.set_cons_zero, List.set_cons_succ]
              refine wpAnyH_take (i := 2) (v := ?_) rfl (by kernel_rfl) (by kernel_rfl) (by kernel_rfl) (fun _ _ _ h => h) (Or.inl ⟨by rfl, ?hy⟩) (by assumption) ?_
              case hy => intro w hSw; (try dsimp only at hSw); go_simp; try with_reducible rfl
              try simp only [Act.put, List.getElem_toArray, List.getElem_cons_succ, List.getElem_cons_zero, List.setIfInBounds_toArray, List.set_cons_zero, List.set_cons_succ]
              refine wpAnyH_take (i := 3) (v := ?_) rfl (by kernel_rfl) (by kernel_rfl) (by kernel_rfl) (fun _ _ _ h => h) (Or.inl ⟨by rfl, ?hy⟩) (by assumption) ?_
              case hy => intro w hSw; (try dsimp only at hSw); go_simp; try with_reducible rfl
              try simp only [Act.put, List.getElem_toArray, List.getElem_cons_succ, List.getElem_cons_zero, List.setIfInBounds_toArray, List.set_cons_zero, List.set_cons_succ]
              refine wpAnyH_take (i := 4) (v := ?_) rfl (by kernel_rfl) (by kernel_rfl) (by kernel_rfl) (fun _ _ _ h => h) (Or.inl ⟨by rfl, ?hy⟩) (by assumption) ?_
              case hy => intro w hSw; (try dsimp only at hSw); go_simp; try with_reducible rfl
              try simp only [Act.put, List.getElem_toArray, List.getElem_cons_succ, List.getElem_cons_zero, List.setIfInBounds_toArray, List.set_cons_zero, List.set_cons_succ]
              refine wpAnyH_take (i := 5) (v := ?_) rfl (by kernel_rfl) (by kernel_rfl) (by kernel_rfl) (fun _ _ _ h => h) (Or.inl ⟨by rfl, ?hy⟩) (by assumption) ?_
              case hy => intro w hSw; (try dsimp only at hSw); go_simp; try with_reducible rfl
              try simp only [Act.put, List.getElem_toArray, List.getElem_cons_succ, List.getElem_cons_zero, List.setIfInBounds_toArray, List.set_cons_zero, List.set_cons_succ]
              refine wpAnyH_take (i := 6) (v := ?_) rfl (by kernel_rfl) (by kernel_rfl) (by kernel_rfl) (fun _ _ _ h => h) (Or.inl ⟨by rfl, ?hy⟩) (by assumption) ?_
              case hy => intro w hSw; (try dsimp only at hSw); go_simp; try with_reducible rfl
              try simp only [Act.put, List.getElem_toArray, List.getElem_cons_succ, List.getElem_cons_zero, List.setIfInBounds_toArray, List.set_cons_zero, List.set_cons_succ]
              refine wpAnyH_take (i := 7) (v := ?_) rfl (by kernel_rfl) (by kernel_rfl) (by kernel_rfl) (fun _ _ _ h => h) (Or.inl ⟨by rfl, ?hy⟩) (by assumption) ?_
              case hy => intro w hSw; (try dsimp only at hSw); go_simp; try with_reducible rfl
              try simp only [Act.put, List.getElem_toArray, List.getElem_cons_succ, List.getElem_cons_zero, List.setIfInBounds_toArray, List.set_cons_zero, List.set_cons_succ]
              refine wpAnyH_take (i := 8) (v := ?_) rfl (by kernel_rfl) (by kernel_rfl) (by kernel_rfl) (fun _ _ _ h => h) (Or.inl ⟨by rfl, ?hy⟩) (by assumption) ?_
              case hy => intro w hSw; (try dsimp only at hSw); go_simp; try with_reducible rfl
              try simp only [Act.put, List.getElem_toArray, List.getElem_cons_succ, List.getElem_cons_zero, List.setIfInBounds_toArray, List.set_cons_zero, List.set_cons_succ]
              refine wpAnyH_take (i := 9) (v := ?_) rfl (by kernel_rfl) (by kernel_rfl) (by kernel_rfl) (fun _ _ _ h => h) (Or.inl ⟨by rfl, ?hy⟩) (by assumption) ?_
              case hy => intro w hSw; (try dsimp only at hSw); go_simp; try with_reducible rfl
              try simp only [Act.put, List.getElem_toArray, List.getElem_cons_succ, List.getElem_cons_zero, List.setIfInBounds_toArray, List.set_cons_zero, List.set_cons_succ]
              refine wpAnyH_take (i := 10) (v := ?_) rfl (by kernel_rfl) (by kernel_rfl) (by kernel_rfl) (fun _ _ _ h => h) (Or.inl ⟨by rfl, ?hy⟩) (by assumption) ?_
              case hy => intro w hSw; (try dsimp only at hSw); go_simp; try with_reducible rfl
              try simp only [Act.put, List.getElem_toArray, List.getElem_cons_succ, List.getElem_cons_zero, List.setIfInBounds_toArray, List.set_cons_zero, List.set_cons_succ]
              refine wpAnyH_take (i := 11) (v := ?_) rfl (by kernel_rfl) (by kernel_rfl) (by kernel_rfl) (fun _ _ _ h => h) (Or.inl ⟨by rfl, ?hy⟩) (by assumption) ?_
              case hy => intro w hSw; (try dsimp only at hSw); go_simp; try with_reducible rfl
              try simp only [Act.put, List.getElem_toArray, List.getElem_cons_succ, List.getElem_cons_zero, List.setIfInBounds_toArray, List.set_cons_zero, List.set_cons_succ]
              refine wpAnyH_take (i := 12) (v := ?_) rfl (by kernel_rfl) (by kernel_rfl) (by kernel_rfl) (fun _ _ _ h => h) (Or.inl ⟨by rfl, ?hy⟩) (by assumption) ?_
              case hy => intro w hSw; (try dsimp only at hSw); go_simp; try with_reducible rfl
              try simp only [Act.put, List.getElem_toArray, List.getElem_cons_succ, List.getElem_cons_zero, List.setIfInBounds_toArray, List.set_cons_zero, List.set_cons_succ]
              refine wpAnyH_take (i := 13) (v := ?_) rfl (by kernel_rfl) (by kernel_rfl) (by kernel_rfl) (fun _ _ _ h => h) (Or.inl ⟨by rfl, ?hy⟩) (by assumption) ?_
              case hy => intro w hSw; (try dsimp only at hSw); go_simp; try with_reducible rfl
              try simp only [Act.put, List.getElem_toArray, List.getElem_cons_succ, List.getElem_cons_zero, List.setIfInBounds_toArray, List.set_cons_zero, List.set_cons_succ]
              refine wpAnyH_take (i := 14) (v := ?_) rfl (by kernel_rfl) (by kernel_rfl) (by kernel_rfl) (fun _ _ _ h => h) (Or.inl ⟨by rfl, ?hy⟩) (by assumption) ?_
              case hy => intro w hSw; (try dsimp only at hSw); go_simp; try with_reducible rfl
              try simp only [Act.put, List.getElem_toArray, List.getElem_cons_succ, List.getElem_cons_zero, List.setIfInBounds_toArray, List.set_cons_zero, List.set_cons_succ]
              refine wpAnyH_take (i := 15) (v := ?_) rfl (by kernel_rfl) (by kernel_rfl) (by kernel_rfl) (fun _ _ _ h => h) (Or.inl ⟨by rfl, ?hy⟩) (by assumption) ?_
              case hy => intro w hSw; (try dsimp only at hSw); go_simp; try with_reducible rfl
              try simp only [Act.put, List.getElem_toArray, List.getElem_cons_succ, List.getElem_cons_zero, List.setIfInBounds_toArray, List.set_cons_zero, List.set_cons_succ]
              refine wpAnyH_ready (rs := [16]) (by kernel_rfl) (by simp) (AllReadyH.cons rfl (fun K hK => ?_) AllReadyH.nil)
              go_simp
              refine HO.out.mono ?_
              rintro e w3 ⟨rfl, h3⟩
              have H3 := Lib.hid h3
              clear h3 HO
              try (go_wp2_with fail)
              refine hK.out _ _ ?_ (fun hHeld => ?_)
              · exact HCC.out _ H3.out.bel
              clear hK K
              try simp only [Act.put, List.getElem_toArray, List.getElem_cons_succ, List.getElem_cons_zero, List.setIfInBounds_toArray, List.set_cons_zero, List.set_cons_succ]
              refine wpAnyH_done (by kernel_rfl) ?_ _
              refine NoPanic.normal ?_
              go_wp2_with (fail)
              exact ⟨⟨i + 1, _, by omega, by go_num, H3, HE2⟩, by first | (simp [intOf]; done) | (simp [intOf]; omega)⟩
            · have i1 : ¬ (i : Int) < len2 := by omega
              have HS := Lib.hid (bin_state HB.out)
              have HU := Lib.hid (bin_until HB.out)
              have HT := Lib.hid (bin_trips HB.out)
              rw [HEQ.out.1, HST.out] at HS
              rw [HUN.out s' HEQ.out.1 HEQ.out.2.1, HUU.out, HEQ.out.1, HST.out] at HU
              rw [HEQ.out.2.2, HTR.out] at HT
              go_wp2_with (fail)
              refine HU.out.mono ?_
              rintro e wq ⟨rfl, hq⟩
              have hq := hq.symm
              subst hq
              go_wp2_with (fail)
              refine HS.out.mono ?_
              rintro e wq ⟨rfl, hq⟩
              have hq := hq.symm
              subst hq
              go_wp2_with (fail)
              refine HT.out.mono ?_
              rintro e wq ⟨rfl, hq⟩
              have hq := hq.symm
              subst hq
              go_wp2_with (fail)
              go_ret
              exact ⟨rfl, HB.out.bel⟩
  · have hne : (E != 0) = true := by simpa using hE
    refine (HNO.out _ HB1.out hE).mono ?_
    rintro e w2 ⟨rfl, h2⟩
    have HB2 := Lib.hid h2
    clear HNO HYES hE h2 HB1
    go_wp2_with (fail)
    go_ret
    exact ⟨rfl, HB2.out⟩

theorem brends_walk (w : World) (res : ByteArray) (hz : res.size ≤ maxLen) (gr : Int) (w1 : (Lit.int .u8 gr).wf = true) (cnt : Int) (w2 : (Lit.int .i64 cnt).wf = true) (slow : Int) (w3 : (Lit.int .i64 slow).wf = true) (least : Int) (w4 : (Lit.int .i64 least).wf = true) (win : Int) (w5 : (Lit.int .i64 win).wf = true) (rec_ : Int) (w6 : (Lit.int .i64 rec_).wf = true)
    (a : Option Addr) (len cap : Nat) (V : Nat → Nat → Value) (hm : len ≤ 140737488351232) (hr : RecsAt w a 5 len V)
    (h0 : ∀ j, j < len → V j 0 = .int .i64 (intOf (V j 0)) ∧ (Lit.int .i64 (intOf (V j 0))).wf = true) (h1 : ∀ j, j < len → V j 1 = .int .i64 (intOf (V j 1)) ∧ (Lit.int .i64 (intOf (V j 1))).wf = true)
    (h2 : ∀ j, j < len → V j 2 = .int .i64 (intOf (V j 2)) ∧ (Lit.int .i64 (intOf (V j 2))).wf = true) (h3 : ∀ j, j < len → V j 3 = .bool (boolOf (V j 3))) (h4 : ∀ j, j < len → V j 4 = .bool (boolOf (V j 4)))
    (a2 : Option Addr) (len2 cap2 : Nat) (V2 : Nat → Nat → Value) (hm2 : len2 ≤ 140737488351232) (hr2 : RecsAt w a2 5 len2 V2)
    (g0 : ∀ j, j < len2 → V2 j 0 = .int .i64 (intOf (V2 j 0)) ∧ (Lit.int .i64 (intOf (V2 j 0))).wf = true) (g1 : ∀ j, j < len2 → V2 j 1 = .int .i64 (intOf (V2 j 1)) ∧ (Lit.int .i64 (intOf (V2 j 1))).wf = true)
    (g2 : ∀ j, j < len2 → V2 j 2 = .int .i64 (intOf (V2 j 2)) ∧ (Lit.int .i64 (intOf (V2 j 2))).wf = true) (g3 : ∀ j, j < len2 → V2 j 3 = .bool (boolOf (V2 j 3))) (g4 : ∀ j, j < len2 → V2 j 4 = .bool (boolOf (V2 j 4))) :
    Calls Try.prog 8 #[.agg #[.string res, .int .u8 gr, .int .i64 cnt, .int .i64 slow, .int .i64 least, .int .i64 win, .int .i64 rec_], .slice a len cap, .slice a2 len2 cap2] w fun e w' => e = .returned (.bool true) ∧ Below w.heap.size w w' :=
  brends_run w ⟨res, gr, cnt, slow, least, win, rec_⟩ hz a len cap hm _ _ _ _ _ (deedsB hr h0 h1 h2 h3 h4) a2 len2 cap2 hm2 _ _ _ _ _ (deedsB hr2 g0 g1 g2 g3 g4)
end Go.Proofs.Ytejkfmepiagabaa
