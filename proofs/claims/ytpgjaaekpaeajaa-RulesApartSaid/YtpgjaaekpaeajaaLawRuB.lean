/- The laws of the layer rules: RulesApart. -/
import Derived.Test.YtpgjaaekpaeajaaLawRuA
import Derived.Test.YtpgjaaekpaeajaaRConc
import Derived.Deep.RegionHeld3
import Derived.RangeFuncRecord
namespace Go.Proofs.Ytpgjaaekpaeajaa
open Go.RowKit
set_option linter.unusedVariables false
set_option linter.unusedSimpArgs false

theorem conc_app {fs : List FlowS} {f o : FlowS} {origin : ByteArray} (h : (f.res.toList == o.res.toList) = false) : concF (fs ++ [o]) f origin = concF fs f origin := by
  have ho : ownB o f.res origin = false := by
    unfold ownB
    have : (o.res.toList == f.res.toList) = false := by
      apply Bool.eq_false_iff.2
      intro e
      rw [beq_iff_eq.1 e] at h
      simp at h
    rw [this]; rfl
  unfold concF
  rw [List.any_append, List.any_cons, ho]
  simp
theorem own_ge {w : World} {base size n : Nat} {e : TypeId} {v : Value} {xs : List Value} (h : w.ownsRow base e size v n xs) {k : Nat} (hk : v.ownBlock = some k) : base ≤ k := by
  rcases h.2 with ⟨rfl, _⟩ | ⟨g, cap, cur, rfl, hb, _⟩
  · simp [Value.ownBlock] at hk
  · have : g = k := by simpa [Value.ownBlock] using hk
    omega
theorem flat_app (fs gs : List FlowS) : flatF (fs ++ gs) = flatF fs ++ flatF gs := by simp [flatF]
theorem flat_nil_app (fs : List FlowS) (o : FlowS) : flatF fs ++ flatF [o] = flatF (fs ++ [o]) := by rw [flat_app]
theorem one_cells (w : World) (p : Nat) (o : FlowS) (h : w.heap[p]? = some (.cells #[.string o.res, .string o.org, .bool o.thr, .int .i64 o.cnt, .int .u8 o.strat, .string o.ref, .int .u8 o.shape, .int .i64 o.warm, .int .i64 o.queue, .bool o.cl, .int .i64 o.id, .bool o.fb] 41)) : ∀ j u, (flatF [o])[j]? = some u → w.cell? ((⟨p, 0, none⟩ : Addr).add j) = some u := by
  intro j u hu
  have hf : flatF [o] = #[.string o.res, .string o.org, .bool o.thr, .int .i64 o.cnt, .int .u8 o.strat, .string o.ref, .int .u8 o.shape, .int .i64 o.warm, .int .i64 o.queue, .bool o.cl, .int .i64 o.id, .bool o.fb].toList := rfl
  rw [hf, Array.getElem?_toList] at hu
  rw [Go.WideShapes.add_plain]
  simp only [World.cell?, h]
  rw [Nat.zero_add]
  simpa using hu
theorem one_cells2 (w : World) (p : Nat) (o : FlowS) (h : w.heap[p]? = some (.cells #[.string o.res, .string o.org, .bool o.thr, .int .i64 o.cnt, .int .u8 o.strat, .string o.ref, .int .u8 o.shape, .int .i64 o.warm, .int .i64 o.queue, .bool o.cl, .int .i64 o.id, .bool o.fb] 41)) : ∀ ad, some (⟨p, 0, none⟩ : Addr) = some ad → ∀ j u, (flatF [o])[j]? = some u → w.cell? (ad.add j) = some u := by
  intro ad e
  obtain rfl : (⟨p, 0, none⟩ : Addr) = ad := by simpa using e
  exact one_cells w p o h

set_option maxHeartbeats 12800000 in
set_option maxRecDepth 100000 in
theorem apart_law (w : World) (fs : List FlowS) (a : Option Addr) (len cap : Nat) (hl : fs.length = len) (hm : len * 120 ≤ 140737488351232) (hf : FlowsAt w a fs) (hnil : a = none → len = 0 ∧ cap = 0) (o : FlowS) (origin : ByteArray) :
    Calls Try.prog 5 #[.slice a len cap, o.v, .string origin] w fun e w' => e = .returned (.bool true) ∧ Below w.heap.size w w' := by
  obtain ⟨i0, hi, hz0, hz1, hz2⟩ := info_parts info_flowA
  have Hl := Lib.hid hl
  have Hf := Lib.hid hf
  have OEQ : o.v = .agg #[.string o.res, .string o.org, .bool o.thr, .int .i64 o.cnt, .int .u8 o.strat, .string o.ref, .int .u8 o.shape, .int .i64 o.warm, .int .i64 o.queue, .bool o.cl, .int .i64 o.id, .bool o.fb] := rfl
  have HLV := Lib.hid (fun (w : World) => live_any w)
  rw [OEQ]
  have hBA : Below w.heap.size w (w.alloc (.cells #[.string o.res, .string o.org, .bool o.thr, .int .i64 o.cnt, .int .u8 o.strat, .string o.ref, .int .u8 o.shape, .int .i64 o.warm, .int .i64 o.queue, .bool o.cl, .int .i64 o.id, .bool o.fb] 41)) := (Below.refl w.heap.size w).alloc (Nat.le_refl _) (.cells #[.string o.res, .string o.org, .bool o.thr, .int .i64 o.cnt, .int .u8 o.strat, .string o.ref, .int .u8 o.shape, .int .i64 o.warm, .int .i64 o.queue, .bool o.cl, .int .i64 o.id, .bool o.fb] 41)
  have H2 : (w.alloc (.cells #[.string o.res, .string o.org, .bool o.thr, .int .i64 o.cnt, .int .u8 o.strat, .string o.ref, .int .u8 o.shape, .int .i64 o.warm, .int .i64 o.queue, .bool o.cl, .int .i64 o.id, .bool o.fb] 41)).heap[w.heap.size]? = some (.cells #[.string o.res, .string o.org, .bool o.thr, .int .i64 o.cnt, .int .u8 o.strat, .string o.ref, .int .u8 o.shape, .int .i64 o.warm, .int .i64 o.queue, .bool o.cl, .int .i64 o.id, .bool o.fb] 41) := World.alloc_heap_new w _
  have Z0 : (w.alloc (.cells #[.string o.res, .string o.org, .bool o.thr, .int .i64 o.cnt, .int .u8 o.strat, .string o.ref, .int .u8 o.shape, .int .i64 o.warm, .int .i64 o.queue, .bool o.cl, .int .i64 o.id, .bool o.fb] 41)).heap.size = w.heap.size + 1 := by simp
  go_enter Try.func5, Try.ntmps5
  go_wp2_with (fail)
  generalize (w.alloc (.cells #[.string o.res, .string o.org, .bool o.thr, .int .i64 o.cnt, .int .u8 o.strat, .string o.ref, .int .u8 o.shape, .int .i64 o.warm, .int .i64 o.queue, .bool o.cl, .int .i64 o.id, .bool o.fb] 41)) = wa at *
  have hzw : w.heap.size < wa.heap.size := by omega
  have SB := Lib.hid (show ∀ wx : World, Below wa.heap.size wa wx → (fun wx => (wx.cell? ⟨w.heap.size, 0, none⟩ = some (.string o.res) ∧ wx.cell? ⟨w.heap.size, 1, none⟩ = some (.string o.org) ∧ wx.cell? ⟨w.heap.size, 2, none⟩ = some (.bool o.thr) ∧ wx.cell? ⟨w.heap.size, 3, none⟩ = some (.int .i64 o.cnt) ∧ wx.cell? ⟨w.heap.size, 4, none⟩ = some (.int .u8 o.strat) ∧ wx.cell? ⟨w.heap.size, 5, none⟩ = some (.string o.ref) ∧ wx.cell? ⟨w.heap.size, 6, none⟩ = some (.int .u8 o.shape) ∧ wx.cell? ⟨w.heap.size, 7, none⟩ = some (.int .i64 o.warm) ∧ wx.cell? ⟨w.heap.size, 8, none⟩ = some (.int .i64 o.queue) ∧ wx.cell? ⟨w.heap.size, 9, none⟩ = some (.bool o.cl) ∧ wx.cell? ⟨w.heap.size, 10, none⟩ = some (.int .i64 o.id) ∧ wx.cell? ⟨w.heap.size, 11, none⟩ = some (.bool o.fb)) ∧ Below wa.heap.size wa wx) wx from fun wx hb => by
    have g2 : wx.heap[w.heap.size]? = some (.cells #[.string o.res, .string o.org, .bool o.thr, .int .i64 o.cnt, .int .u8 o.strat, .string o.ref, .int .u8 o.shape, .int .i64 o.warm, .int .i64 o.queue, .bool o.cl, .int .i64 o.id, .bool o.fb] 41) := (hb.block _ (by omega)).trans H2
    refine ⟨?_, hb⟩
    simp only [World.cell?, g2]
    repeat' apply And.intro
    all_goals rfl)
  have HS0 := Lib.hid (SB.out _ (Below.refl _ _).drew)
  have HNW := Lib.hid (show ∀ wx : World, Below wa.heap.size wa wx → ∀ ad, a = some ad → ∀ j u, (flatF fs)[j]? = some u → wx.cell? (ad.add j) = some u from fun wx hb ad e j u hu => by
    rcases hf with h | ⟨b, off, rfl, hlt, hc⟩
    · subst h; cases j <;> simp [flatF] at hu
    · obtain rfl : (⟨b, off, none⟩ : Addr) = ad := by simpa using e
      refine flat_cells (fun j f hj => (hc j f hj).of_block ((hb.block b (by omega)).trans (hBA.block b hlt))) j u hu)
  have HBA := Lib.hid hBA
  clear OEQ hf hl H2 Z0 hBA
  refine wp_region_held_drew (S := fun wx => (wx.cell? ⟨w.heap.size, 0, none⟩ = some (.string o.res) ∧ wx.cell? ⟨w.heap.size, 1, none⟩ = some (.string o.org) ∧ wx.cell? ⟨w.heap.size, 2, none⟩ = some (.bool o.thr) ∧ wx.cell? ⟨w.heap.size, 3, none⟩ = some (.int .i64 o.cnt) ∧ wx.cell? ⟨w.heap.size, 4, none⟩ = some (.int .u8 o.strat) ∧ wx.cell? ⟨w.heap.size, 5, none⟩ = some (.string o.ref) ∧ wx.cell? ⟨w.heap.size, 6, none⟩ = some (.int .u8 o.shape) ∧ wx.cell? ⟨w.heap.size, 7, none⟩ = some (.int .i64 o.warm) ∧ wx.cell? ⟨w.heap.size, 8, none⟩ = some (.int .i64 o.queue) ∧ wx.cell? ⟨w.heap.size, 9, none⟩ = some (.bool o.cl) ∧ wx.cell? ⟨w.heap.size, 10, none⟩ = some (.int .i64 o.id) ∧ wx.cell? ⟨w.heap.size, 11, none⟩ = some (.bool o.fb)) ∧ Below wa.heap.size wa wx) (by kernel_rfl) ?_ (fun hHeld => ?_)
  · exact HS0.out
  refine wpAnyH_take (i := 1) (v := ?_) rfl (by kernel_rfl) (by kernel_rfl) (by kernel_rfl) (fun _ _ _ h => h) (Or.inl ⟨by rfl, ?hy⟩) (by assumption) ?_
  case hy => intro w hSw; (try dsimp only at hSw); go_simp; try with_reducible rfl
  try simp only [Act.put, List.getElem_toArray, List.getElem_cons_succ, List.getElem_cons_zero, List.setIfInBounds_toArray, List.set_cons_zero, List.set_cons_succ]
  refine wpAnyH_take (i := 3) (v := ?_) rfl (by kernel_rfl) (by kernel_rfl) (by kernel_rfl) (fun _ _ _ h => h) (Or.inl ⟨by rfl, ?hy⟩) (by assumption) ?_
  case hy => intro w hSw; (try dsimp only at hSw); go_simp; try with_reducible rfl
  try simp only [Act.put, List.getElem_toArray, List.getElem_cons_succ, List.getElem_cons_zero, List.setIfInBounds_toArray, List.set_cons_zero, List.set_cons_succ]
  refine wpAnyH_ready (rs := [0, 4]) (by kernel_rfl) (by simp) (AllReadyH.cons rfl (fun K hK => ?_) (AllReadyH.cons rfl (fun K hK => ?_) AllReadyH.nil))
  · go_simp
    try (go_wp2_with fail)
    have HBn := ((Below.refl wa.heap.size wa).alloc (Nat.le_refl _) (.cells #[] 41)).drew
    have HOWN := Lib.hid (show (wa.alloc (.cells #[] 41)).drew.ownsRow wa.heap.size 41 12 (.slice (some ⟨wa.heap.size, 0, none⟩) 0 0) 0 [] from by
      have := World.ownsRow_lit (base := wa.heap.size) (size := 12) (e := 41) wa #[] 0 (Nat.le_refl _) (by decide) rfl
      exact this)
    have HBN := Lib.hid HBn
    refine hK.out _ _ (SB.out _ HBn) (fun hHeld => ?_)
    clear hK K
    try simp only [Act.put, List.getElem_toArray, List.getElem_cons_succ, List.getElem_cons_zero, List.setIfInBounds_toArray, List.set_cons_zero, List.set_cons_succ]
    refine wpAnyH_ready (rs := [2, 4]) (by kernel_rfl) (by simp) (AllReadyH.cons rfl (fun K hK => ?_) (AllReadyH.cons rfl (fun K hK => ?_) AllReadyH.nil))
    · rw [if_pos (by rfl)]
      refine wp_append_fl _ (.tmp 9) (.tmp 10) 22 rfl wa.heap.size 41 i0 _ 12 120 Try.underlying22 hi hz0 hz1 hz2 rfl (by decide) (.slice (some ⟨wa.heap.size, 0, none⟩) 0 0) 0 [] rfl HOWN.out a len cap (flatF fs) rfl hnil (by rw [flat_len, Hl.out]) (fun ad e => HNW.out _ HBN.out ad e) flat_one (by unfold maxLen; omega) (by omega) HBN.out.size ?_
      intro v4 w4 hown4 hgr4
      rw [Nat.zero_add, List.nil_append] at hown4
      have HB4 := Lib.hid (HBN.out.grown hgr4 HBN.out.size (fun k e => by
        have : wa.heap.size = k := by simpa [Value.ownBlock] using e
        omega))

      have HOWN4 := Lib.hid hown4
      clear hgr4 hown4 HOWN HBN
      refine hK.out _ _ (SB.out _ HB4.out) (fun hHeld => ?_)
      clear hK K
      try simp only [Act.put, List.getElem_toArray, List.getElem_cons_succ, List.getElem_cons_zero, List.setIfInBounds_toArray, List.set_cons_zero, List.set_cons_succ]
      refine wpAnyH_ready (rs := [4]) (by kernel_rfl) (by simp) (AllReadyH.cons rfl (fun K hK => ?_) AllReadyH.nil)
      go_simp
      try (go_wp2_with fail)
      have HBn := (HB4.out.alloc HB4.out.size (.cells #[.string o.res, .string o.org, .bool o.thr, .int .i64 o.cnt, .int .u8 o.strat, .string o.ref, .int .u8 o.shape, .int .i64 o.warm, .int .i64 o.queue, .bool o.cl, .int .i64 o.id, .bool o.fb] 41))
      have HROW := Lib.hid (show (w4.alloc (.cells #[.string o.res, .string o.org, .bool o.thr, .int .i64 o.cnt, .int .u8 o.strat, .string o.ref, .int .u8 o.shape, .int .i64 o.warm, .int .i64 o.queue, .bool o.cl, .int .i64 o.id, .bool o.fb] 41)).heap[w4.heap.size]? = some (.cells #[.string o.res, .string o.org, .bool o.thr, .int .i64 o.cnt, .int .u8 o.strat, .string o.ref, .int .u8 o.shape, .int .i64 o.warm, .int .i64 o.queue, .bool o.cl, .int .i64 o.id, .bool o.fb] 41) from World.alloc_heap_new w4 _)
      have HOWN5 := Lib.hid (show (w4.alloc (.cells #[.string o.res, .string o.org, .bool o.thr, .int .i64 o.cnt, .int .u8 o.strat, .string o.ref, .int .u8 o.shape, .int .i64 o.warm, .int .i64 o.queue, .bool o.cl, .int .i64 o.id, .bool o.fb] 41)).ownsRow wa.heap.size 41 12 v4 len (flatF fs) from HOWN4.out.alloc _)
      have HBN := Lib.hid HBn
      clear HB4 HOWN4
      refine hK.out _ _ (SB.out _ HBn) (fun hHeld => ?_)
      clear hK K
      try simp only [Act.put, List.getElem_toArray, List.getElem_cons_succ, List.getElem_cons_zero, List.setIfInBounds_toArray, List.set_cons_zero, List.set_cons_succ]
      refine wpAnyH_ready (rs := [5]) (by kernel_rfl) (by simp) (AllReadyH.cons rfl (fun K hK => ?_) AllReadyH.nil)
      rw [if_pos (by rfl)]
      refine wp_append_fl _ (.tmp 11) (.tmp 13) 22 rfl wa.heap.size 41 i0 _ 12 120 Try.underlying22 hi hz0 hz1 hz2 rfl (by decide) v4 len (flatF fs) rfl HOWN5.out (some ⟨w4.heap.size, 0, none⟩) 1 1 (flatF [o]) rfl (fun h => by cases h) rfl (one_cells2 _ _ o HROW.out) flat_one (by unfold maxLen; omega) (by omega) HBN.out.size ?_
      intro v5 w5 hown5 hgr5
      obtain ⟨k4, hk4, hk5⟩ : ∃ k4, v4.ownBlock = k4 ∧ ∀ k, k4 = some k → wa.heap.size ≤ k := ⟨_, rfl, fun k e => own_ge HOWN5.out e⟩
      have HB5' := HBN.out.grown hgr5 HBN.out.size (fun k e => hk5 k (hk4.symm.trans e))
      rw [flat_nil_app] at hown5
      obtain ⟨a2, c2, rfl, hfl, _⟩ := flows_own hown5
      have HFL := Lib.hid hfl
      have HS5 := Lib.hid ((SB.out _ HB5').1.1)
      have HZ5 := Lib.hid (Nat.lt_of_lt_of_le hzw HB5'.size)
      have HB5 := Lib.hid (HBA.out.trans (HB5'.mono HBA.out.size))
      refine hK.out _ _ (SB.out _ HB5') (fun hHeld => ?_)
      clear hfl hown5 hgr5 hk4 hk5 k4 HB5' HBN HROW HOWN5
      clear hK K
      try simp only [Act.put, List.getElem_toArray, List.getElem_cons_succ, List.getElem_cons_zero, List.setIfInBounds_toArray, List.set_cons_zero, List.set_cons_succ]
      refine wpAnyH_take (i := 6) (v := ?_) rfl (by kernel_rfl) (by kernel_rfl) (by kernel_rfl) (fun _ _ _ h => h) (Or.inl ⟨by rfl, ?hy⟩) (by assumption) ?_
      case hy => intro w hSw; (try dsimp only at hSw); go_simp; try with_reducible rfl
      try simp only [Act.put, List.getElem_toArray, List.getElem_cons_succ, List.getElem_cons_zero, List.setIfInBounds_toArray, List.set_cons_zero, List.set_cons_succ]
      refine wpAnyH_done (by kernel_rfl) ?_ _
      clear hHeld
      clear HS0 SB HNW HBA
      go_wp2_with (fail)
      go_loopw [8] (fun x wr => ∃ i : Nat, i ≤ len ∧ x = .int .i64 i ∧ Below w5.heap.size w5 wr) (fun x _ => len - (intOf x).toNat)
      case atStart => exact ⟨0, Nat.zero_le _, rfl, Below.refl _ _⟩
      case round =>
        obtain ⟨i, hi, rfl, hbr⟩ := hrel
        by_cases hlt : i < len
        · obtain ⟨b, off, rfl, hl4, hfc⟩ : ∃ b off, a = some ⟨b, off, none⟩ ∧ b < w.heap.size ∧ ∀ j f, fs[j]? = some f → FlowAt w b (off + j * 12) f := by
            rcases Hf.out with h | h
            · have := Hl.out; rw [h] at this; simp at this; omega
            · exact h
          obtain ⟨b2, off2, rfl, hl5, hfc2⟩ : ∃ b off, a2 = some ⟨b, off, none⟩ ∧ b < w5.heap.size ∧ ∀ j f, (fs ++ [o])[j]? = some f → FlowAt w5 b (off + j * 12) f := by
            rcases HFL.out with h | h
            · simp at h
            · exact h
          obtain ⟨f, hg⟩ : ∃ g, fs[i]? = some g := ⟨_, List.getElem?_eq_getElem (by rw [Hl.out]; exact hlt)⟩
          have hg2 : (fs ++ [o])[i]? = some f := by rw [List.getElem?_append_left (by rw [Hl.out]; exact hlt)]; exact hg
          have hbw : Below w.heap.size w wr := HB5.out.trans (hbr.mono HB5.out.size)
          have bwr : b < wr.heap.size := Nat.lt_of_lt_of_le hl4 hbw.size
          have wwr : w.heap.size < wr.heap.size := by have := hbr.size; have := HZ5.out; omega
          have bwr2 : b2 < wr.heap.size := Nat.lt_of_lt_of_le hl5 hbr.size
          have HF := (hfc i f hg).of_block (hbw.block b hl4)
          have hcl : wr.cell? ⟨w.heap.size, 0, none⟩ = some (.string o.res) := (hbr.cell (p := ⟨w.heap.size, 0, none⟩) HZ5.out).trans HS5.out
          have SS := Lib.hid (show ∀ wa wb : World, (fun wx => (wx.cell? ⟨b, off + i * 12, none⟩ = some (.string f.res) ∧ wx.cell? ⟨w.heap.size, 0, none⟩ = some (.string o.res)) ∧ Below wr.heap.size wr wx) wa → Below wa.heap.size wa wb → (fun wx => (wx.cell? ⟨b, off + i * 12, none⟩ = some (.string f.res) ∧ wx.cell? ⟨w.heap.size, 0, none⟩ = some (.string o.res)) ∧ Below wr.heap.size wr wx) wb from fun wa wb hs hb => by
            obtain ⟨⟨h0, h1⟩, hz⟩ := hs
            have hzs := hz.size
            exact ⟨⟨(hb.cell (by show b < _; omega)).trans h0, (hb.cell (by show w.heap.size < _; omega)).trans h1⟩, hz.trans (hb.mono hzs)⟩)
          have HS0 := Lib.hid (show (fun wx => (wx.cell? ⟨b, off + i * 12, none⟩ = some (.string f.res) ∧ wx.cell? ⟨w.heap.size, 0, none⟩ = some (.string o.res)) ∧ Below wr.heap.size wr wx) wr.drew from ⟨⟨HF.c0, hcl⟩, (Below.refl _ _).drew⟩)
          have Hc1 := Lib.hid (fun (wx : World) (hb : Below wr.heap.size wr wx) => concerns_any fs f origin i b off len cap wx Hl.out hg (by omega) (fun j g hj => ((hfc j g hj).of_block (hbw.block b hl4)).of_block (hb.block b bwr)) (Nat.lt_of_lt_of_le bwr hb.size))
          have Hc2 := Lib.hid (fun (wx : World) (hb : Below wr.heap.size wr wx) => concerns_any (fs ++ [o]) f origin i b2 off2 (len + 1) c2 wx (by rw [List.length_append, Hl.out]; rfl) hg2 (by omega) (fun j g hj => ((hfc2 j g hj).of_block (hbr.block b2 hl5)).of_block (hb.block b2 bwr2)) (Nat.lt_of_lt_of_le bwr2 hb.size))
          have i0 : (0 : Int) ≤ i := by omega
          have i1 : (i : Int) < len := by omega
          have d1 := HF.c0
          have HBW := Lib.hid hbr
          clear hfc hfc2 hg hg2 bwr wwr bwr2 HF hbr hl4 hl5 hbw
          cases g1 : (f.res.toList == o.res.toList)
          · rw [conc_app g1] at Hc2
            generalize concF fs f origin = CC at *
            have hne : (CC != CC) = false := by simp
            go_wp2_with (fail)
            refine wp_region_noPanic ?_
            refine wp_region_held_drew (S := fun wx => (wx.cell? ⟨b, off + i * 12, none⟩ = some (.string f.res) ∧ wx.cell? ⟨w.heap.size, 0, none⟩ = some (.string o.res)) ∧ Below wr.heap.size wr wx) (by kernel_rfl) ?_ (fun hHeld => ?_)
            · exact HS0.out
            refine wpAnyH_take (i := 0) (v := ?_) rfl (by kernel_rfl) (by kernel_rfl) (by kernel_rfl) (fun _ _ _ h => h) (Or.inl ⟨by rfl, ?hy⟩) (by assumption) ?_
            case hy => intro w hSw; (try dsimp only at hSw); go_simp; try with_reducible rfl
            try simp only [Act.put, List.getElem_toArray, List.getElem_cons_succ, List.getElem_cons_zero, List.setIfInBounds_toArray, List.set_cons_zero, List.set_cons_succ]
            refine wpAnyH_take (i := 1) (v := ?_) rfl (by kernel_rfl) (by kernel_rfl) (by kernel_rfl) (fun _ _ _ h => h) (Or.inl ⟨by rfl, ?hy⟩) (by assumption) ?_
            case hy => intro w hSw; (try dsimp only at hSw); go_simp; try with_reducible rfl
            try simp only [Act.put, List.getElem_toArray, List.getElem_cons_succ, List.getElem_cons_zero, List.setIfInBounds_toArray, List.set_cons_zero, List.set_cons_succ]
            refine wpAnyH_take (i := 2) (v := ?_) rfl (by kernel_rfl) (by kernel_rfl) (by kernel_rfl) (fun _ _ _ h => h) (Or.inl ⟨by rfl, ?hy⟩) (by assumption) ?_
            case hy => intro w hSw; (try dsimp only at hSw); go_simp; try with_reducible rfl
            try simp only [Act.put, List.getElem_toArray, List.getElem_cons_succ, List.getElem_cons_zero, List.setIfInBounds_toArray, List.set_cons_zero, List.set_cons_succ]
            refine wpAnyH_take (i := 3) (v := ?_) rfl (by kernel_rfl) (by kernel_rfl) (by kernel_rfl) (fun _ _ _ h => h) (Or.inl ⟨by rfl, ?hy⟩) (by assumption) ?_
            case hy => intro w hSw; (try dsimp only at hSw); go_simp; try with_reducible rfl
            try simp only [Act.put, List.getElem_toArray, List.getElem_cons_succ, List.getElem_cons_zero, List.setIfInBounds_toArray, List.set_cons_zero, List.set_cons_succ]
            refine wpAnyH_take (i := 4) (v := ?_) rfl (by kernel_rfl) (by kernel_rfl) (by kernel_rfl) (fun _ _ _ h => h) (Or.inl ⟨by rfl, ?hy⟩) (by assumption) ?_
            case hy => intro w hSw; (try dsimp only at hSw); go_simp; try with_reducible rfl
            try simp only [Act.put, List.getElem_toArray, List.getElem_cons_succ, List.getElem_cons_zero, List.setIfInBounds_toArray, List.set_cons_zero, List.set_cons_succ]
            refine wpAnyH_take (i := 5) (v := ?_) rfl (by kernel_rfl) (by kernel_rfl) (by kernel_rfl) (fun _ _ _ h => h) (Or.inl ⟨by rfl, ?hy⟩) (by assumption) ?_
            case hy => intro w hSw; (try dsimp only at hSw); go_simp; try with_reducible rfl
            try simp only [Act.put, List.getElem_toArray, List.getElem_cons_succ, List.getElem_cons_zero, List.setIfInBounds_toArray, List.set_cons_zero, List.set_cons_succ]
            refine wpAnyH_take (i := 6) (v := ?_) rfl (by kernel_rfl) (by kernel_rfl) (by kernel_rfl) (fun _ _ _ h => h) (Or.inl ⟨by rfl, ?hy⟩) (by assumption) ?_
            case hy => intro w hSw; (try dsimp only at hSw); go_simp; try with_reducible rfl
            try simp only [Act.put, List.getElem_toArray, List.getElem_cons_succ, List.getElem_cons_zero, List.setIfInBounds_toArray, List.set_cons_zero, List.set_cons_succ]
            refine wpAnyH_take (i := 7) (v := ?_) rfl (by kernel_rfl) (by kernel_rfl) (by kernel_rfl) (fun _ _ _ h => h) (Or.inl ⟨by rfl, ?hy⟩) (by assumption) ?_
            case hy => intro w hSw; (try dsimp only at hSw); go_simp; try with_reducible rfl
            try simp only [Act.put, List.getElem_toArray, List.getElem_cons_succ, List.getElem_cons_zero, List.setIfInBounds_toArray, List.set_cons_zero, List.set_cons_succ]
            refine wpAnyH_take (i := 8) (v := ?_) rfl (by kernel_rfl) (by kernel_rfl) (by kernel_rfl) (fun _ _ _ h => h) (Or.inl ⟨by rfl, ?hy⟩) (by assumption) ?_
            case hy => intro w hSw; (try dsimp only at hSw); go_simp; try with_reducible rfl
            try simp only [Act.put, List.getElem_toArray, List.getElem_cons_succ, List.getElem_cons_zero, List.setIfInBounds_toArray, List.set_cons_zero, List.set_cons_succ]
            refine wpAnyH_take (i := 9) (v := ?_) rfl (by kernel_rfl) (by kernel_rfl) (by kernel_rfl) (fun _ _ _ h => h) (Or.inl ⟨by rfl, ?hy⟩) (by assumption) ?_
            case hy => intro w hSw; (try dsimp only at hSw); go_simp; try with_reducible rfl
            try simp only [Act.put, List.getElem_toArray, List.getElem_cons_succ, List.getElem_cons_zero, List.setIfInBounds_toArray, List.set_cons_zero, List.set_cons_succ]
            refine wpAnyH_take (i := 10) (v := ?_) rfl (by kernel_rfl) (by kernel_rfl) (by kernel_rfl) (fun _ _ _ h => h) (Or.inl ⟨by rfl, ?hy⟩) (by assumption) ?_
            case hy => intro w hSw; (try dsimp only at hSw); go_simp; try with_reducible rfl
            try simp only [Act.put, List.getElem_toArray, List.getElem_cons_succ, List.getElem_cons_zero, List.setIfInBounds_toArray, List.set_cons_zero, List.set_cons_succ]
            refine wpAnyH_take (i := 11) (v := ?_) rfl (by kernel_rfl) (by kernel_rfl) (by kernel_rfl) (fun _ _ _ h => h) (Or.inl ⟨by rfl, ?hy⟩) (by assumption) ?_
            case hy => intro w hSw; (try dsimp only at hSw); go_simp; try with_reducible rfl
            try simp only [Act.put, List.getElem_toArray, List.getElem_cons_succ, List.getElem_cons_zero, List.setIfInBounds_toArray, List.set_cons_zero, List.set_cons_succ]
            refine wpAnyH_take (i := 13) (v := ?_) rfl (by kernel_rfl) (by kernel_rfl) (by kernel_rfl) (fun _ _ _ h => h) (Or.inl ⟨by rfl, ?hy⟩) (by assumption) ?_
            case hy => intro w hSw; (try dsimp only at hSw); go_simp; try with_reducible rfl
            try simp only [Act.put, List.getElem_toArray, List.getElem_cons_succ, List.getElem_cons_zero, List.setIfInBounds_toArray, List.set_cons_zero, List.set_cons_succ]
            refine wpAnyH_take (i := 14) (v := ?_) rfl (by kernel_rfl) (by kernel_rfl) (by kernel_rfl) (fun _ _ _ h => h) (Or.inl ⟨by rfl, ?hy⟩) (by assumption) ?_
            case hy => intro w hSw; (try dsimp only at hSw); go_simp; try with_reducible rfl
            try simp only [Act.put, List.getElem_toArray, List.getElem_cons_succ, List.getElem_cons_zero, List.setIfInBounds_toArray, List.set_cons_zero, List.set_cons_succ]
            refine wpAnyH_take (i := 15) (v := ?_) rfl (by kernel_rfl) (by kernel_rfl) (by kernel_rfl) (fun _ _ _ h => h) (Or.inl ⟨by rfl, ?hy⟩) (by assumption) ?_
            case hy => intro w hSw; (try dsimp only at hSw); go_simp; try with_reducible rfl
            try simp only [Act.put, List.getElem_toArray, List.getElem_cons_succ, List.getElem_cons_zero, List.setIfInBounds_toArray, List.set_cons_zero, List.set_cons_succ]
            refine wpAnyH_ready (rs := [12]) (by kernel_rfl) (by simp) (AllReadyH.cons rfl (fun K hK => ?_) AllReadyH.nil)
            go_simp
            go_at_call 12; refine (Hc1.out _ (by first | exact HS0.out.2 | exact hHeld.2)).mono ?_; rintro e wb1 ⟨rfl, hb1⟩
            try (go_wp2_with fail)
            refine hK.out _ _ ?_ (fun hHeld => ?_)
            · exact SS.out _ _ (by first | exact HS0.out | exact hHeld) hb1
            clear hK K
            try simp only [Act.put, List.getElem_toArray, List.getElem_cons_succ, List.getElem_cons_zero, List.setIfInBounds_toArray, List.set_cons_zero, List.set_cons_succ]
            refine wpAnyH_ready (rs := [16]) (by kernel_rfl) (by simp) (AllReadyH.cons rfl (fun K hK => ?_) AllReadyH.nil)
            go_simp
            go_at_call 12; refine (Hc2.out _ (by first | exact hHeld.2 | exact HS0.out.2)).mono ?_; rintro e wb2 ⟨rfl, hb2⟩
            try (go_wp2_with fail)
            refine hK.out _ _ ?_ (fun hHeld => ?_)
            · exact SS.out _ _ (by first | exact hHeld | exact HS0.out) hb2
            clear hK K
            try simp only [Act.put, List.getElem_toArray, List.getElem_cons_succ, List.getElem_cons_zero, List.setIfInBounds_toArray, List.set_cons_zero, List.set_cons_succ]
            refine wpAnyH_take (i := 17) (v := ?_) rfl (by kernel_rfl) (by kernel_rfl) (by kernel_rfl) (fun _ _ _ h => h) (Or.inl ⟨by rfl, ?hy⟩) (by assumption) ?_
            case hy => intro w hSw; (try dsimp only at hSw); go_simp; try with_reducible rfl
            try simp only [Act.put, List.getElem_toArray, List.getElem_cons_succ, List.getElem_cons_zero, List.setIfInBounds_toArray, List.set_cons_zero, List.set_cons_succ]
            refine wpAnyH_take (i := 18) (v := ?_) rfl (by kernel_rfl) (by kernel_rfl) (by kernel_rfl) (fun _ _ _ h => h) (Or.inl ⟨by rfl, ?hy⟩) (by assumption) ?_
            case hy => intro w hSw; (try dsimp only at hSw); go_simp; try with_reducible rfl
            try simp only [Act.put, List.getElem_toArray, List.getElem_cons_succ, List.getElem_cons_zero, List.setIfInBounds_toArray, List.set_cons_zero, List.set_cons_succ]
            refine wpAnyH_done (by kernel_rfl) ?_ _
            refine NoPanic.normal ?_
            have HZ := Lib.hid (HBW.out.trans (hHeld.2.mono HBW.out.size))
            clear hHeld HS0 SS
            go_wp2_with (fail)
            exact ⟨⟨i + 1, by omega, by go_num, HZ.out⟩, by simp [intOf]; omega⟩
          · clear Hc1 Hc2
            go_wp2_with (fail)
            refine wp_region_noPanic ?_
            refine wp_region_held_drew (S := fun wx => (wx.cell? ⟨b, off + i * 12, none⟩ = some (.string f.res) ∧ wx.cell? ⟨w.heap.size, 0, none⟩ = some (.string o.res)) ∧ Below wr.heap.size wr wx) (by kernel_rfl) ?_ (fun hHeld => ?_)
            · exact HS0.out
            refine wpAnyH_take (i := 0) (v := ?_) rfl (by kernel_rfl) (by kernel_rfl) (by kernel_rfl) (fun _ _ _ h => h) (Or.inl ⟨by rfl, ?hy⟩) (by assumption) ?_
            case hy => intro w hSw; (try dsimp only at hSw); go_simp; try with_reducible rfl
            try simp only [Act.put, List.getElem_toArray, List.getElem_cons_succ, List.getElem_cons_zero, List.setIfInBounds_toArray, List.set_cons_zero, List.set_cons_succ]
            refine wpAnyH_take (i := 1) (v := ?_) rfl (by kernel_rfl) (by kernel_rfl) (by kernel_rfl) (fun _ _ _ h => h) (Or.inl ⟨by rfl, ?hy⟩) (by assumption) ?_
            case hy => intro w hSw; (try dsimp only at hSw); go_simp; try with_reducible rfl
            try simp only [Act.put, List.getElem_toArray, List.getElem_cons_succ, List.getElem_cons_zero, List.setIfInBounds_toArray, List.set_cons_zero, List.set_cons_succ]
            refine wpAnyH_take (i := 2) (v := ?_) rfl (by kernel_rfl) (by kernel_rfl) (by kernel_rfl) (fun _ _ _ h => h) (Or.inl ⟨by rfl, ?hy⟩) (by assumption) ?_
            case hy => intro w hSw; (try dsimp only at hSw); go_simp; try with_reducible rfl
            try simp only [Act.put, List.getElem_toArray, List.getElem_cons_succ, List.getElem_cons_zero, List.setIfInBounds_toArray, List.set_cons_zero, List.set_cons_succ]
            refine wpAnyH_take (i := 3) (v := ?_) rfl (by kernel_rfl) (by kernel_rfl) (by kernel_rfl) (fun _ _ _ h => h) (Or.inl ⟨by rfl, ?hy⟩) (by assumption) ?_
            case hy => intro w hSw; (try dsimp only at hSw); go_simp; try with_reducible rfl
            try simp only [Act.put, List.getElem_toArray, List.getElem_cons_succ, List.getElem_cons_zero, List.setIfInBounds_toArray, List.set_cons_zero, List.set_cons_succ]
            refine wpAnyH_take (i := 4) (v := ?_) rfl (by kernel_rfl) (by kernel_rfl) (by kernel_rfl) (fun _ _ _ h => h) (Or.inl ⟨by rfl, ?hy⟩) (by assumption) ?_
            case hy => intro w hSw; (try dsimp only at hSw); go_simp; try with_reducible rfl
            try simp only [Act.put, List.getElem_toArray, List.getElem_cons_succ, List.getElem_cons_zero, List.setIfInBounds_toArray, List.set_cons_zero, List.set_cons_succ]
            refine wpAnyH_take (i := 5) (v := ?_) rfl (by kernel_rfl) (by kernel_rfl) (by kernel_rfl) (fun _ _ _ h => h) (Or.inl ⟨by rfl, ?hy⟩) (by assumption) ?_
            case hy => intro w hSw; (try dsimp only at hSw); go_simp; try with_reducible rfl
            try simp only [Act.put, List.getElem_toArray, List.getElem_cons_succ, List.getElem_cons_zero, List.setIfInBounds_toArray, List.set_cons_zero, List.set_cons_succ]
            refine wpAnyH_take (i := 6) (v := ?_) rfl (by kernel_rfl) (by kernel_rfl) (by kernel_rfl) (fun _ _ _ h => h) (Or.inl ⟨by rfl, ?hy⟩) (by assumption) ?_
            case hy => intro w hSw; (try dsimp only at hSw); go_simp; try with_reducible rfl
            try simp only [Act.put, List.getElem_toArray, List.getElem_cons_succ, List.getElem_cons_zero, List.setIfInBounds_toArray, List.set_cons_zero, List.set_cons_succ]
            refine wpAnyH_take (i := 7) (v := ?_) rfl (by kernel_rfl) (by kernel_rfl) (by kernel_rfl) (fun _ _ _ h => h) (Or.inl ⟨by rfl, ?hy⟩) (by assumption) ?_
            case hy => intro w hSw; (try dsimp only at hSw); go_simp; try with_reducible rfl
            try simp only [Act.put, List.getElem_toArray, List.getElem_cons_succ, List.getElem_cons_zero, List.setIfInBounds_toArray, List.set_cons_zero, List.set_cons_succ]
            refine wpAnyH_take (i := 8) (v := ?_) rfl (by kernel_rfl) (by kernel_rfl) (by kernel_rfl) (fun _ _ _ h => h) (Or.inl ⟨by rfl, ?hy⟩) (by assumption) ?_
            case hy => intro w hSw; (try dsimp only at hSw); go_simp; try with_reducible rfl
            try simp only [Act.put, List.getElem_toArray, List.getElem_cons_succ, List.getElem_cons_zero, List.setIfInBounds_toArray, List.set_cons_zero, List.set_cons_succ]
            refine wpAnyH_take (i := 9) (v := undef) rfl (by kernel_rfl) (by kernel_rfl) (by kernel_rfl) (fun _ _ _ h => h) (Or.inr ⟨by rfl, rfl⟩) (by assumption) ?_
            try simp only [Act.put, List.getElem_toArray, List.getElem_cons_succ, List.getElem_cons_zero, List.setIfInBounds_toArray, List.set_cons_zero, List.set_cons_succ]
            refine wpAnyH_take (i := 10) (v := undef) rfl (by kernel_rfl) (by kernel_rfl) (by kernel_rfl) (fun _ _ _ h => h) (Or.inr ⟨by rfl, rfl⟩) (by assumption) ?_
            try simp only [Act.put, List.getElem_toArray, List.getElem_cons_succ, List.getElem_cons_zero, List.setIfInBounds_toArray, List.set_cons_zero, List.set_cons_succ]
            refine wpAnyH_take (i := 11) (v := undef) rfl (by kernel_rfl) (by kernel_rfl) (by kernel_rfl) (fun _ _ _ h => h) (Or.inr ⟨by rfl, rfl⟩) (by assumption) ?_
            try simp only [Act.put, List.getElem_toArray, List.getElem_cons_succ, List.getElem_cons_zero, List.setIfInBounds_toArray, List.set_cons_zero, List.set_cons_succ]
            refine wpAnyH_take (i := 13) (v := undef) rfl (by kernel_rfl) (by kernel_rfl) (by kernel_rfl) (fun _ _ _ h => h) (Or.inr ⟨by rfl, rfl⟩) (by assumption) ?_
            try simp only [Act.put, List.getElem_toArray, List.getElem_cons_succ, List.getElem_cons_zero, List.setIfInBounds_toArray, List.set_cons_zero, List.set_cons_succ]
            refine wpAnyH_take (i := 14) (v := undef) rfl (by kernel_rfl) (by kernel_rfl) (by kernel_rfl) (fun _ _ _ h => h) (Or.inr ⟨by rfl, rfl⟩) (by assumption) ?_
            try simp only [Act.put, List.getElem_toArray, List.getElem_cons_succ, List.getElem_cons_zero, List.setIfInBounds_toArray, List.set_cons_zero, List.set_cons_succ]
            refine wpAnyH_take (i := 15) (v := undef) rfl (by kernel_rfl) (by kernel_rfl) (by kernel_rfl) (fun _ _ _ h => h) (Or.inr ⟨by rfl, rfl⟩) (by assumption) ?_
            try simp only [Act.put, List.getElem_toArray, List.getElem_cons_succ, List.getElem_cons_zero, List.setIfInBounds_toArray, List.set_cons_zero, List.set_cons_succ]
            refine wpAnyH_ready (rs := [12]) (by kernel_rfl) (by simp) (AllReadyH.cons rfl (fun K hK => ?_) AllReadyH.nil)
            rw [if_neg (by exact Bool.false_ne_true)]
            refine hK.out _ _ hHeld (fun hHeld => ?_)
            clear hK K
            try simp only [Act.put, List.getElem_toArray, List.getElem_cons_succ, List.getElem_cons_zero, List.setIfInBounds_toArray, List.set_cons_zero, List.set_cons_succ]
            refine wpAnyH_ready (rs := [16]) (by kernel_rfl) (by simp) (AllReadyH.cons rfl (fun K hK => ?_) AllReadyH.nil)
            rw [if_neg (by exact Bool.false_ne_true)]
            refine hK.out _ _ hHeld (fun hHeld => ?_)
            clear hK K
            try simp only [Act.put, List.getElem_toArray, List.getElem_cons_succ, List.getElem_cons_zero, List.setIfInBounds_toArray, List.set_cons_zero, List.set_cons_succ]
            refine wpAnyH_take (i := 17) (v := undef) rfl (by kernel_rfl) (by kernel_rfl) (by kernel_rfl) (fun _ _ _ h => h) (Or.inr ⟨by rfl, rfl⟩) (by assumption) ?_
            try simp only [Act.put, List.getElem_toArray, List.getElem_cons_succ, List.getElem_cons_zero, List.setIfInBounds_toArray, List.set_cons_zero, List.set_cons_succ]
            refine wpAnyH_take (i := 18) (v := ?_) rfl (by kernel_rfl) (by kernel_rfl) (by kernel_rfl) (fun _ _ _ h => h) (Or.inl ⟨by rfl, ?hy⟩) (by assumption) ?_
            case hy => intro w hSw; (try dsimp only at hSw); go_simp; try with_reducible rfl
            try simp only [Act.put, List.getElem_toArray, List.getElem_cons_succ, List.getElem_cons_zero, List.setIfInBounds_toArray, List.set_cons_zero, List.set_cons_succ]
            refine wpAnyH_done (by kernel_rfl) ?_ _
            refine NoPanic.normal ?_
            have HZ := Lib.hid (HBW.out.trans (hHeld.2.mono HBW.out.size))
            clear hHeld HS0 SS
            go_wp2_with (fail)
            exact ⟨⟨i + 1, by omega, by go_num, HZ.out⟩, by simp [intOf]; omega⟩
        · have i1 : ¬ (i : Int) < len := by omega
          have HX := Lib.hid (HLV.out wr)
          go_wp2_with (fail)
          refine HX.out.mono ?_
          rintro e wb ⟨rfl, hb⟩
          go_wp2_with (fail)
          go_ret
          exact ⟨rfl, HB5.out.trans ((hbr.trans (hb.mono hbr.size)).mono HB5.out.size)⟩
    · go_simp
      try (go_wp2_with fail)
      have HBn := HBN.out.alloc HBN.out.size (.cells #[.string o.res, .string o.org, .bool o.thr, .int .i64 o.cnt, .int .u8 o.strat, .string o.ref, .int .u8 o.shape, .int .i64 o.warm, .int .i64 o.queue, .bool o.cl, .int .i64 o.id, .bool o.fb] 41)
      have HROW0 := Lib.hid (show ((wa.alloc (.cells #[] 41)).drew.alloc (.cells #[.string o.res, .string o.org, .bool o.thr, .int .i64 o.cnt, .int .u8 o.strat, .string o.ref, .int .u8 o.shape, .int .i64 o.warm, .int .i64 o.queue, .bool o.cl, .int .i64 o.id, .bool o.fb] 41)).heap[wa.heap.size + 1]? = some (.cells #[.string o.res, .string o.org, .bool o.thr, .int .i64 o.cnt, .int .u8 o.strat, .string o.ref, .int .u8 o.shape, .int .i64 o.warm, .int .i64 o.queue, .bool o.cl, .int .i64 o.id, .bool o.fb] 41) from by
        have := World.alloc_heap_new (wa.alloc (.cells #[] 41)) (.cells #[.string o.res, .string o.org, .bool o.thr, .int .i64 o.cnt, .int .u8 o.strat, .string o.ref, .int .u8 o.shape, .int .i64 o.warm, .int .i64 o.queue, .bool o.cl, .int .i64 o.id, .bool o.fb] 41)
        rwa [World.size_alloc] at this)
      have HOWN1 := Lib.hid (HOWN.out.alloc (.cells #[.string o.res, .string o.org, .bool o.thr, .int .i64 o.cnt, .int .u8 o.strat, .string o.ref, .int .u8 o.shape, .int .i64 o.warm, .int .i64 o.queue, .bool o.cl, .int .i64 o.id, .bool o.fb] 41))
      have hlt5 : wa.heap.size + 1 < ((wa.alloc (.cells #[] 41)).drew.alloc (.cells #[.string o.res, .string o.org, .bool o.thr, .int .i64 o.cnt, .int .u8 o.strat, .string o.ref, .int .u8 o.shape, .int .i64 o.warm, .int .i64 o.queue, .bool o.cl, .int .i64 o.id, .bool o.fb] 41)).heap.size := by show _ < ((wa.alloc (.cells #[] 41)).alloc (.cells #[.string o.res, .string o.org, .bool o.thr, .int .i64 o.cnt, .int .u8 o.strat, .string o.ref, .int .u8 o.shape, .int .i64 o.warm, .int .i64 o.queue, .bool o.cl, .int .i64 o.id, .bool o.fb] 41)).heap.size; simp only [World.size_alloc]; omega
      have HLT5 := Lib.hid hlt5
      clear hlt5
      have HBN := Lib.hid HBn
      clear HOWN
      have HOWN := HOWN1
      clear HOWN1

      refine hK.out _ _ (SB.out _ HBn) (fun hHeld => ?_)
      clear hK K
      try simp only [Act.put, List.getElem_toArray, List.getElem_cons_succ, List.getElem_cons_zero, List.setIfInBounds_toArray, List.set_cons_zero, List.set_cons_succ]
      refine wpAnyH_ready (rs := [2]) (by kernel_rfl) (by simp) (AllReadyH.cons rfl (fun K hK => ?_) AllReadyH.nil)
      rw [if_pos (by rfl)]
      refine wp_append_fl _ (.tmp 9) (.tmp 10) 22 rfl wa.heap.size 41 i0 _ 12 120 Try.underlying22 hi hz0 hz1 hz2 rfl (by decide) (.slice (some ⟨wa.heap.size, 0, none⟩) 0 0) 0 [] rfl HOWN.out a len cap (flatF fs) rfl hnil (by rw [flat_len, Hl.out]) (fun ad e => HNW.out _ HBN.out ad e) flat_one (by unfold maxLen; omega) (by omega) HBN.out.size ?_
      intro v4 w4 hown4 hgr4
      rw [Nat.zero_add, List.nil_append] at hown4
      have HB4 := Lib.hid (HBN.out.grown hgr4 HBN.out.size (fun k e => by
        have : wa.heap.size = k := by simpa [Value.ownBlock] using e
        omega))
      have HROW := Lib.hid ((hgr4.block (wa.heap.size + 1) HLT5.out (by simp [Value.ownBlock])).trans HROW0.out)
      have HOWN4 := Lib.hid hown4
      have HOWN5 := Lib.hid hown4
      have HBN := HB4
      clear hgr4 hown4 HOWN
      refine hK.out _ _ (SB.out _ HB4.out) (fun hHeld => ?_)
      clear hK K
      try simp only [Act.put, List.getElem_toArray, List.getElem_cons_succ, List.getElem_cons_zero, List.setIfInBounds_toArray, List.set_cons_zero, List.set_cons_succ]
      refine wpAnyH_ready (rs := [5]) (by kernel_rfl) (by simp) (AllReadyH.cons rfl (fun K hK => ?_) AllReadyH.nil)
      rw [if_pos (by rfl)]
      refine wp_append_fl _ (.tmp 11) (.tmp 13) 22 rfl wa.heap.size 41 i0 _ 12 120 Try.underlying22 hi hz0 hz1 hz2 rfl (by decide) v4 len (flatF fs) rfl HOWN5.out (some ⟨wa.heap.size + 1, 0, none⟩) 1 1 (flatF [o]) rfl (fun h => by cases h) rfl (one_cells2 _ _ o HROW.out) flat_one (by unfold maxLen; omega) (by omega) HBN.out.size ?_
      intro v5 w5 hown5 hgr5
      obtain ⟨k4, hk4, hk5⟩ : ∃ k4, v4.ownBlock = k4 ∧ ∀ k, k4 = some k → wa.heap.size ≤ k := ⟨_, rfl, fun k e => own_ge HOWN5.out e⟩
      have HB5' := HBN.out.grown hgr5 HBN.out.size (fun k e => hk5 k (hk4.symm.trans e))
      rw [flat_nil_app] at hown5
      obtain ⟨a2, c2, rfl, hfl, _⟩ := flows_own hown5
      have HFL := Lib.hid hfl
      have HS5 := Lib.hid ((SB.out _ HB5').1.1)
      have HZ5 := Lib.hid (Nat.lt_of_lt_of_le hzw HB5'.size)
      have HB5 := Lib.hid (HBA.out.trans (HB5'.mono HBA.out.size))
      refine hK.out _ _ (SB.out _ HB5') (fun hHeld => ?_)
      clear hfl hown5 hgr5 hk4 hk5 k4 HB5' HBN HROW HOWN5
      clear hK K
      try simp only [Act.put, List.getElem_toArray, List.getElem_cons_succ, List.getElem_cons_zero, List.setIfInBounds_toArray, List.set_cons_zero, List.set_cons_succ]
      refine wpAnyH_take (i := 6) (v := ?_) rfl (by kernel_rfl) (by kernel_rfl) (by kernel_rfl) (fun _ _ _ h => h) (Or.inl ⟨by rfl, ?hy⟩) (by assumption) ?_
      case hy => intro w hSw; (try dsimp only at hSw); go_simp; try with_reducible rfl
      try simp only [Act.put, List.getElem_toArray, List.getElem_cons_succ, List.getElem_cons_zero, List.setIfInBounds_toArray, List.set_cons_zero, List.set_cons_succ]
      refine wpAnyH_done (by kernel_rfl) ?_ _
      clear hHeld
      clear HS0 SB HNW HBA
      go_wp2_with (fail)
      go_loopw [8] (fun x wr => ∃ i : Nat, i ≤ len ∧ x = .int .i64 i ∧ Below w5.heap.size w5 wr) (fun x _ => len - (intOf x).toNat)
      case atStart => exact ⟨0, Nat.zero_le _, rfl, Below.refl _ _⟩
      case round =>
        obtain ⟨i, hi, rfl, hbr⟩ := hrel
        by_cases hlt : i < len
        · obtain ⟨b, off, rfl, hl4, hfc⟩ : ∃ b off, a = some ⟨b, off, none⟩ ∧ b < w.heap.size ∧ ∀ j f, fs[j]? = some f → FlowAt w b (off + j * 12) f := by
            rcases Hf.out with h | h
            · have := Hl.out; rw [h] at this; simp at this; omega
            · exact h
          obtain ⟨b2, off2, rfl, hl5, hfc2⟩ : ∃ b off, a2 = some ⟨b, off, none⟩ ∧ b < w5.heap.size ∧ ∀ j f, (fs ++ [o])[j]? = some f → FlowAt w5 b (off + j * 12) f := by
            rcases HFL.out with h | h
            · simp at h
            · exact h
          obtain ⟨f, hg⟩ : ∃ g, fs[i]? = some g := ⟨_, List.getElem?_eq_getElem (by rw [Hl.out]; exact hlt)⟩
          have hg2 : (fs ++ [o])[i]? = some f := by rw [List.getElem?_append_left (by rw [Hl.out]; exact hlt)]; exact hg
          have hbw : Below w.heap.size w wr := HB5.out.trans (hbr.mono HB5.out.size)
          have bwr : b < wr.heap.size := Nat.lt_of_lt_of_le hl4 hbw.size
          have wwr : w.heap.size < wr.heap.size := by have := hbr.size; have := HZ5.out; omega
          have bwr2 : b2 < wr.heap.size := Nat.lt_of_lt_of_le hl5 hbr.size
          have HF := (hfc i f hg).of_block (hbw.block b hl4)
          have hcl : wr.cell? ⟨w.heap.size, 0, none⟩ = some (.string o.res) := (hbr.cell (p := ⟨w.heap.size, 0, none⟩) HZ5.out).trans HS5.out
          have SS := Lib.hid (show ∀ wa wb : World, (fun wx => (wx.cell? ⟨b, off + i * 12, none⟩ = some (.string f.res) ∧ wx.cell? ⟨w.heap.size, 0, none⟩ = some (.string o.res)) ∧ Below wr.heap.size wr wx) wa → Below wa.heap.size wa wb → (fun wx => (wx.cell? ⟨b, off + i * 12, none⟩ = some (.string f.res) ∧ wx.cell? ⟨w.heap.size, 0, none⟩ = some (.string o.res)) ∧ Below wr.heap.size wr wx) wb from fun wa wb hs hb => by
            obtain ⟨⟨h0, h1⟩, hz⟩ := hs
            have hzs := hz.size
            exact ⟨⟨(hb.cell (by show b < _; omega)).trans h0, (hb.cell (by show w.heap.size < _; omega)).trans h1⟩, hz.trans (hb.mono hzs)⟩)
          have HS0 := Lib.hid (show (fun wx => (wx.cell? ⟨b, off + i * 12, none⟩ = some (.string f.res) ∧ wx.cell? ⟨w.heap.size, 0, none⟩ = some (.string o.res)) ∧ Below wr.heap.size wr wx) wr.drew from ⟨⟨HF.c0, hcl⟩, (Below.refl _ _).drew⟩)
          have Hc1 := Lib.hid (fun (wx : World) (hb : Below wr.heap.size wr wx) => concerns_any fs f origin i b off len cap wx Hl.out hg (by omega) (fun j g hj => ((hfc j g hj).of_block (hbw.block b hl4)).of_block (hb.block b bwr)) (Nat.lt_of_lt_of_le bwr hb.size))
          have Hc2 := Lib.hid (fun (wx : World) (hb : Below wr.heap.size wr wx) => concerns_any (fs ++ [o]) f origin i b2 off2 (len + 1) c2 wx (by rw [List.length_append, Hl.out]; rfl) hg2 (by omega) (fun j g hj => ((hfc2 j g hj).of_block (hbr.block b2 hl5)).of_block (hb.block b2 bwr2)) (Nat.lt_of_lt_of_le bwr2 hb.size))
          have i0 : (0 : Int) ≤ i := by omega
          have i1 : (i : Int) < len := by omega
          have d1 := HF.c0
          have HBW := Lib.hid hbr
          clear hfc hfc2 hg hg2 bwr wwr bwr2 HF hbr hl4 hl5 hbw
          cases g1 : (f.res.toList == o.res.toList)
          · rw [conc_app g1] at Hc2
            generalize concF fs f origin = CC at *
            have hne : (CC != CC) = false := by simp
            go_wp2_with (fail)
            refine wp_region_noPanic ?_
            refine wp_region_held_drew (S := fun wx => (wx.cell? ⟨b, off + i * 12, none⟩ = some (.string f.res) ∧ wx.cell? ⟨w.heap.size, 0, none⟩ = some (.string o.res)) ∧ Below wr.heap.size wr wx) (by kernel_rfl) ?_ (fun hHeld => ?_)
            · exact HS0.out
            refine wpAnyH_take (i := 0) (v := ?_) rfl (by kernel_rfl) (by kernel_rfl) (by kernel_rfl) (fun _ _ _ h => h) (Or.inl ⟨by rfl, ?hy⟩) (by assumption) ?_
            case hy => intro w hSw; (try dsimp only at hSw); go_simp; try with_reducible rfl
            try simp only [Act.put, List.getElem_toArray, List.getElem_cons_succ, List.getElem_cons_zero, List.setIfInBounds_toArray, List.set_cons_zero, List.set_cons_succ]
            refine wpAnyH_take (i := 1) (v := ?_) rfl (by kernel_rfl) (by kernel_rfl) (by kernel_rfl) (fun _ _ _ h => h) (Or.inl ⟨by rfl, ?hy⟩) (by assumption) ?_
            case hy => intro w hSw; (try dsimp only at hSw); go_simp; try with_reducible rfl
            try simp only [Act.put, List.getElem_toArray, List.getElem_cons_succ, List.getElem_cons_zero, List.setIfInBounds_toArray, List.set_cons_zero, List.set_cons_succ]
            refine wpAnyH_take (i := 2) (v := ?_) rfl (by kernel_rfl) (by kernel_rfl) (by kernel_rfl) (fun _ _ _ h => h) (Or.inl ⟨by rfl, ?hy⟩) (by assumption) ?_
            case hy => intro w hSw; (try dsimp only at hSw); go_simp; try with_reducible rfl
            try simp only [Act.put, List.getElem_toArray, List.getElem_cons_succ, List.getElem_cons_zero, List.setIfInBounds_toArray, List.set_cons_zero, List.set_cons_succ]
            refine wpAnyH_take (i := 3) (v := ?_) rfl (by kernel_rfl) (by kernel_rfl) (by kernel_rfl) (fun _ _ _ h => h) (Or.inl ⟨by rfl, ?hy⟩) (by assumption) ?_
            case hy => intro w hSw; (try dsimp only at hSw); go_simp; try with_reducible rfl
            try simp only [Act.put, List.getElem_toArray, List.getElem_cons_succ, List.getElem_cons_zero, List.setIfInBounds_toArray, List.set_cons_zero, List.set_cons_succ]
            refine wpAnyH_take (i := 4) (v := ?_) rfl (by kernel_rfl) (by kernel_rfl) (by kernel_rfl) (fun _ _ _ h => h) (Or.inl ⟨by rfl, ?hy⟩) (by assumption) ?_
            case hy => intro w hSw; (try dsimp only at hSw); go_simp; try with_reducible rfl
            try simp only [Act.put, List.getElem_toArray, List.getElem_cons_succ, List.getElem_cons_zero, List.setIfInBounds_toArray, List.set_cons_zero, List.set_cons_succ]
            refine wpAnyH_take (i := 5) (v := ?_) rfl (by kernel_rfl) (by kernel_rfl) (by kernel_rfl) (fun _ _ _ h => h) (Or.inl ⟨by rfl, ?hy⟩) (by assumption) ?_
            case hy => intro w hSw; (try dsimp only at hSw); go_simp; try with_reducible rfl
            try simp only [Act.put, List.getElem_toArray, List.getElem_cons_succ, List.getElem_cons_zero, List.setIfInBounds_toArray, List.set_cons_zero, List.set_cons_succ]
            refine wpAnyH_take (i := 6) (v := ?_) rfl (by kernel_rfl) (by kernel_rfl) (by kernel_rfl) (fun _ _ _ h => h) (Or.inl ⟨by rfl, ?hy⟩) (by assumption) ?_
            case hy => intro w hSw; (try dsimp only at hSw); go_simp; try with_reducible rfl
            try simp only [Act.put, List.getElem_toArray, List.getElem_cons_succ, List.getElem_cons_zero, List.setIfInBounds_toArray, List.set_cons_zero, List.set_cons_succ]
            refine wpAnyH_take (i := 7) (v := ?_) rfl (by kernel_rfl) (by kernel_rfl) (by kernel_rfl) (fun _ _ _ h => h) (Or.inl ⟨by rfl, ?hy⟩) (by assumption) ?_
            case hy => intro w hSw; (try dsimp only at hSw); go_simp; try with_reducible rfl
            try simp only [Act.put, List.getElem_toArray, List.getElem_cons_succ, List.getElem_cons_zero, List.setIfInBounds_toArray, List.set_cons_zero, List.set_cons_succ]
            refine wpAnyH_take (i := 8) (v := ?_) rfl (by kernel_rfl) (by kernel_rfl) (by kernel_rfl) (fun _ _ _ h => h) (Or.inl ⟨by rfl, ?hy⟩) (by assumption) ?_
            case hy => intro w hSw; (try dsimp only at hSw); go_simp; try with_reducible rfl
            try simp only [Act.put, List.getElem_toArray, List.getElem_cons_succ, List.getElem_cons_zero, List.setIfInBounds_toArray, List.set_cons_zero, List.set_cons_succ]
            refine wpAnyH_take (i := 9) (v := ?_) rfl (by kernel_rfl) (by kernel_rfl) (by kernel_rfl) (fun _ _ _ h => h) (Or.inl ⟨by rfl, ?hy⟩) (by assumption) ?_
            case hy => intro w hSw; (try dsimp only at hSw); go_simp; try with_reducible rfl
            try simp only [Act.put, List.getElem_toArray, List.getElem_cons_succ, List.getElem_cons_zero, List.setIfInBounds_toArray, List.set_cons_zero, List.set_cons_succ]
            refine wpAnyH_take (i := 10) (v := ?_) rfl (by kernel_rfl) (by kernel_rfl) (by kernel_rfl) (fun _ _ _ h => h) (Or.inl ⟨by rfl, ?hy⟩) (by assumption) ?_
            case hy => intro w hSw; (try dsimp only at hSw); go_simp; try with_reducible rfl
            try simp only [Act.put, List.getElem_toArray, List.getElem_cons_succ, List.getElem_cons_zero, List.setIfInBounds_toArray, List.set_cons_zero, List.set_cons_succ]
            refine wpAnyH_take (i := 11) (v := ?_) rfl (by kernel_rfl) (by kernel_rfl) (by kernel_rfl) (fun _ _ _ h => h) (Or.inl ⟨by rfl, ?hy⟩) (by assumption) ?_
            case hy => intro w hSw; (try dsimp only at hSw); go_simp; try with_reducible rfl
            try simp only [Act.put, List.getElem_toArray, List.getElem_cons_succ, List.getElem_cons_zero, List.setIfInBounds_toArray, List.set_cons_zero, List.set_cons_succ]
            refine wpAnyH_take (i := 13) (v := ?_) rfl (by kernel_rfl) (by kernel_rfl) (by kernel_rfl) (fun _ _ _ h => h) (Or.inl ⟨by rfl, ?hy⟩) (by assumption) ?_
            case hy => intro w hSw; (try dsimp only at hSw); go_simp; try with_reducible rfl
            try simp only [Act.put, List.getElem_toArray, List.getElem_cons_succ, List.getElem_cons_zero, List.setIfInBounds_toArray, List.set_cons_zero, List.set_cons_succ]
            refine wpAnyH_take (i := 14) (v := ?_) rfl (by kernel_rfl) (by kernel_rfl) (by kernel_rfl) (fun _ _ _ h => h) (Or.inl ⟨by rfl, ?hy⟩) (by assumption) ?_
            case hy => intro w hSw; (try dsimp only at hSw); go_simp; try with_reducible rfl
            try simp only [Act.put, List.getElem_toArray, List.getElem_cons_succ, List.getElem_cons_zero, List.setIfInBounds_toArray, List.set_cons_zero, List.set_cons_succ]
            refine wpAnyH_take (i := 15) (v := ?_) rfl (by kernel_rfl) (by kernel_rfl) (by kernel_rfl) (fun _ _ _ h => h) (Or.inl ⟨by rfl, ?hy⟩) (by assumption) ?_
            case hy => intro w hSw; (try dsimp only at hSw); go_simp; try with_reducible rfl
            try simp only [Act.put, List.getElem_toArray, List.getElem_cons_succ, List.getElem_cons_zero, List.setIfInBounds_toArray, List.set_cons_zero, List.set_cons_succ]
            refine wpAnyH_ready (rs := [12]) (by kernel_rfl) (by simp) (AllReadyH.cons rfl (fun K hK => ?_) AllReadyH.nil)
            go_simp
            go_at_call 12; refine (Hc1.out _ (by first | exact HS0.out.2 | exact hHeld.2)).mono ?_; rintro e wb1 ⟨rfl, hb1⟩
            try (go_wp2_with fail)
            refine hK.out _ _ ?_ (fun hHeld => ?_)
            · exact SS.out _ _ (by first | exact HS0.out | exact hHeld) hb1
            clear hK K
            try simp only [Act.put, List.getElem_toArray, List.getElem_cons_succ, List.getElem_cons_zero, List.setIfInBounds_toArray, List.set_cons_zero, List.set_cons_succ]
            refine wpAnyH_ready (rs := [16]) (by kernel_rfl) (by simp) (AllReadyH.cons rfl (fun K hK => ?_) AllReadyH.nil)
            go_simp
            go_at_call 12; refine (Hc2.out _ (by first | exact hHeld.2 | exact HS0.out.2)).mono ?_; rintro e wb2 ⟨rfl, hb2⟩
            try (go_wp2_with fail)
            refine hK.out _ _ ?_ (fun hHeld => ?_)
            · exact SS.out _ _ (by first | exact hHeld | exact HS0.out) hb2
            clear hK K
            try simp only [Act.put, List.getElem_toArray, List.getElem_cons_succ, List.getElem_cons_zero, List.setIfInBounds_toArray, List.set_cons_zero, List.set_cons_succ]
            refine wpAnyH_take (i := 17) (v := ?_) rfl (by kernel_rfl) (by kernel_rfl) (by kernel_rfl) (fun _ _ _ h => h) (Or.inl ⟨by rfl, ?hy⟩) (by assumption) ?_
            case hy => intro w hSw; (try dsimp only at hSw); go_simp; try with_reducible rfl
            try simp only [Act.put, List.getElem_toArray, List.getElem_cons_succ, List.getElem_cons_zero, List.setIfInBounds_toArray, List.set_cons_zero, List.set_cons_succ]
            refine wpAnyH_take (i := 18) (v := ?_) rfl (by kernel_rfl) (by kernel_rfl) (by kernel_rfl) (fun _ _ _ h => h) (Or.inl ⟨by rfl, ?hy⟩) (by assumption) ?_
            case hy => intro w hSw; (try dsimp only at hSw); go_simp; try with_reducible rfl
            try simp only [Act.put, List.getElem_toArray, List.getElem_cons_succ, List.getElem_cons_zero, List.setIfInBounds_toArray, List.set_cons_zero, List.set_cons_succ]
            refine wpAnyH_done (by kernel_rfl) ?_ _
            refine NoPanic.normal ?_
            have HZ := Lib.hid (HBW.out.trans (hHeld.2.mono HBW.out.size))
            clear hHeld HS0 SS
            go_wp2_with (fail)
            exact ⟨⟨i + 1, by omega, by go_num, HZ.out⟩, by simp [intOf]; omega⟩
          · clear Hc1 Hc2
            go_wp2_with (fail)
            refine wp_region_noPanic ?_
            refine wp_region_held_drew (S := fun wx => (wx.cell? ⟨b, off + i * 12, none⟩ = some (.string f.res) ∧ wx.cell? ⟨w.heap.size, 0, none⟩ = some (.string o.res)) ∧ Below wr.heap.size wr wx) (by kernel_rfl) ?_ (fun hHeld => ?_)
            · exact HS0.out
            refine wpAnyH_take (i := 0) (v := ?_) rfl (by kernel_rfl) (by kernel_rfl) (by kernel_rfl) (fun _ _ _ h => h) (Or.inl ⟨by rfl, ?hy⟩) (by assumption) ?_
            case hy => intro w hSw; (try dsimp only at hSw); go_simp; try with_reducible rfl
            try simp only [Act.put, List.getElem_toArray, List.getElem_cons_succ, List.getElem_cons_zero, List.setIfInBounds_toArray, List.set_cons_zero, List.set_cons_succ]
            refine wpAnyH_take (i := 1) (v := ?_) rfl (by kernel_rfl) (by kernel_rfl) (by kernel_rfl) (fun _ _ _ h => h) (Or.inl ⟨by rfl, ?hy⟩) (by assumption) ?_
            case hy => intro w hSw; (try dsimp only at hSw); go_simp; try with_reducible rfl
            try simp only [Act.put, List.getElem_toArray, List.getElem_cons_succ, List.getElem_cons_zero, List.setIfInBounds_toArray, List.set_cons_zero, List.set_cons_succ]
            refine wpAnyH_take (i := 2) (v := ?_) rfl (by kernel_rfl) (by kernel_rfl) (by kernel_rfl) (fun _ _ _ h => h) (Or.inl ⟨by rfl, ?hy⟩) (by assumption) ?_
            case hy => intro w hSw; (try dsimp only at hSw); go_simp; try with_reducible rfl
            try simp only [Act.put, List.getElem_toArray, List.getElem_cons_succ, List.getElem_cons_zero, List.setIfInBounds_toArray, List.set_cons_zero, List.set_cons_succ]
            refine wpAnyH_take (i := 3) (v := ?_) rfl (by kernel_rfl) (by kernel_rfl) (by kernel_rfl) (fun _ _ _ h => h) (Or.inl ⟨by rfl, ?hy⟩) (by assumption) ?_
            case hy => intro w hSw; (try dsimp only at hSw); go_simp; try with_reducible rfl
            try simp only [Act.put, List.getElem_toArray, List.getElem_cons_succ, List.getElem_cons_zero, List.setIfInBounds_toArray, List.set_cons_zero, List.set_cons_succ]
            refine wpAnyH_take (i := 4) (v := ?_) rfl (by kernel_rfl) (by kernel_rfl) (by kernel_rfl) (fun _ _ _ h => h) (Or.inl ⟨by rfl, ?hy⟩) (by assumption) ?_
            case hy => intro w hSw; (try dsimp only at hSw); go_simp; try with_reducible rfl
            try simp only [Act.put, List.getElem_toArray, List.getElem_cons_succ, List.getElem_cons_zero, List.setIfInBounds_toArray, List.set_cons_zero, List.set_cons_succ]
            refine wpAnyH_take (i := 5) (v := ?_) rfl (by kernel_rfl) (by kernel_rfl) (by kernel_rfl) (fun _ _ _ h => h) (Or.inl ⟨by rfl, ?hy⟩) (by assumption) ?_
            case hy => intro w hSw; (try dsimp only at hSw); go_simp; try with_reducible rfl
            try simp only [Act.put, List.getElem_toArray, List.getElem_cons_succ, List.getElem_cons_zero, List.setIfInBounds_toArray, List.set_cons_zero, List.set_cons_succ]
            refine wpAnyH_take (i := 6) (v := ?_) rfl (by kernel_rfl) (by kernel_rfl) (by kernel_rfl) (fun _ _ _ h => h) (Or.inl ⟨by rfl, ?hy⟩) (by assumption) ?_
            case hy => intro w hSw; (try dsimp only at hSw); go_simp; try with_reducible rfl
            try simp only [Act.put, List.getElem_toArray, List.getElem_cons_succ, List.getElem_cons_zero, List.setIfInBounds_toArray, List.set_cons_zero, List.set_cons_succ]
            refine wpAnyH_take (i := 7) (v := ?_) rfl (by kernel_rfl) (by kernel_rfl) (by kernel_rfl) (fun _ _ _ h => h) (Or.inl ⟨by rfl, ?hy⟩) (by assumption) ?_
            case hy => intro w hSw; (try dsimp only at hSw); go_simp; try with_reducible rfl
            try simp only [Act.put, List.getElem_toArray, List.getElem_cons_succ, List.getElem_cons_zero, List.setIfInBounds_toArray, List.set_cons_zero, List.set_cons_succ]
            refine wpAnyH_take (i := 8) (v := ?_) rfl (by kernel_rfl) (by kernel_rfl) (by kernel_rfl) (fun _ _ _ h => h) (Or.inl ⟨by rfl, ?hy⟩) (by assumption) ?_
            case hy => intro w hSw; (try dsimp only at hSw); go_simp; try with_reducible rfl
            try simp only [Act.put, List.getElem_toArray, List.getElem_cons_succ, List.getElem_cons_zero, List.setIfInBounds_toArray, List.set_cons_zero, List.set_cons_succ]
            refine wpAnyH_take (i := 9) (v := undef) rfl (by kernel_rfl) (by kernel_rfl) (by kernel_rfl) (fun _ _ _ h => h) (Or.inr ⟨by rfl, rfl⟩) (by assumption) ?_
            try simp only [Act.put, List.getElem_toArray, List.getElem_cons_succ, List.getElem_cons_zero, List.setIfInBounds_toArray, List.set_cons_zero, List.set_cons_succ]
            refine wpAnyH_take (i := 10) (v := undef) rfl (by kernel_rfl) (by kernel_rfl) (by kernel_rfl) (fun _ _ _ h => h) (Or.inr ⟨by rfl, rfl⟩) (by assumption) ?_
            try simp only [Act.put, List.getElem_toArray, List.getElem_cons_succ, List.getElem_cons_zero, List.setIfInBounds_toArray, List.set_cons_zero, List.set_cons_succ]
            refine wpAnyH_take (i := 11) (v := undef) rfl (by kernel_rfl) (by kernel_rfl) (by kernel_rfl) (fun _ _ _ h => h) (Or.inr ⟨by rfl, rfl⟩) (by assumption) ?_
            try simp only [Act.put, List.getElem_toArray, List.getElem_cons_succ, List.getElem_cons_zero, List.setIfInBounds_toArray, List.set_cons_zero, List.set_cons_succ]
            refine wpAnyH_take (i := 13) (v := undef) rfl (by kernel_rfl) (by kernel_rfl) (by kernel_rfl) (fun _ _ _ h => h) (Or.inr ⟨by rfl, rfl⟩) (by assumption) ?_
            try simp only [Act.put, List.getElem_toArray, List.getElem_cons_succ, List.getElem_cons_zero, List.setIfInBounds_toArray, List.set_cons_zero, List.set_cons_succ]
            refine wpAnyH_take (i := 14) (v := undef) rfl (by kernel_rfl) (by kernel_rfl) (by kernel_rfl) (fun _ _ _ h => h) (Or.inr ⟨by rfl, rfl⟩) (by assumption) ?_
            try simp only [Act.put, List.getElem_toArray, List.getElem_cons_succ, List.getElem_cons_zero, List.setIfInBounds_toArray, List.set_cons_zero, List.set_cons_succ]
            refine wpAnyH_take (i := 15) (v := undef) rfl (by kernel_rfl) (by kernel_rfl) (by kernel_rfl) (fun _ _ _ h => h) (Or.inr ⟨by rfl, rfl⟩) (by assumption) ?_
            try simp only [Act.put, List.getElem_toArray, List.getElem_cons_succ, List.getElem_cons_zero, List.setIfInBounds_toArray, List.set_cons_zero, List.set_cons_succ]
            refine wpAnyH_ready (rs := [12]) (by kernel_rfl) (by simp) (AllReadyH.cons rfl (fun K hK => ?_) AllReadyH.nil)
            rw [if_neg (by exact Bool.false_ne_true)]
            refine hK.out _ _ hHeld (fun hHeld => ?_)
            clear hK K
            try simp only [Act.put, List.getElem_toArray, List.getElem_cons_succ, List.getElem_cons_zero, List.setIfInBounds_toArray, List.set_cons_zero, List.set_cons_succ]
            refine wpAnyH_ready (rs := [16]) (by kernel_rfl) (by simp) (AllReadyH.cons rfl (fun K hK => ?_) AllReadyH.nil)
            rw [if_neg (by exact Bool.false_ne_true)]
            refine hK.out _ _ hHeld (fun hHeld => ?_)
            clear hK K
            try simp only [Act.put, List.getElem_toArray, List.getElem_cons_succ, List.getElem_cons_zero, List.setIfInBounds_toArray, List.set_cons_zero, List.set_cons_succ]
            refine wpAnyH_take (i := 17) (v := undef) rfl (by kernel_rfl) (by kernel_rfl) (by kernel_rfl) (fun _ _ _ h => h) (Or.inr ⟨by rfl, rfl⟩) (by assumption) ?_
            try simp only [Act.put, List.getElem_toArray, List.getElem_cons_succ, List.getElem_cons_zero, List.setIfInBounds_toArray, List.set_cons_zero, List.set_cons_succ]
            refine wpAnyH_take (i := 18) (v := ?_) rfl (by kernel_rfl) (by kernel_rfl) (by kernel_rfl) (fun _ _ _ h => h) (Or.inl ⟨by rfl, ?hy⟩) (by assumption) ?_
            case hy => intro w hSw; (try dsimp only at hSw); go_simp; try with_reducible rfl
            try simp only [Act.put, List.getElem_toArray, List.getElem_cons_succ, List.getElem_cons_zero, List.setIfInBounds_toArray, List.set_cons_zero, List.set_cons_succ]
            refine wpAnyH_done (by kernel_rfl) ?_ _
            refine NoPanic.normal ?_
            have HZ := Lib.hid (HBW.out.trans (hHeld.2.mono HBW.out.size))
            clear hHeld HS0 SS
            go_wp2_with (fail)
            exact ⟨⟨i + 1, by omega, by go_num, HZ.out⟩, by simp [intOf]; omega⟩
        · have i1 : ¬ (i : Int) < len := by omega
          have HX := Lib.hid (HLV.out wr)
          go_wp2_with (fail)
          refine HX.out.mono ?_
          rintro e wb ⟨rfl, hb⟩
          go_wp2_with (fail)
          go_ret
          exact ⟨rfl, HB5.out.trans ((hbr.trans (hb.mono hbr.size)).mono HB5.out.size)⟩
  · go_simp
    try (go_wp2_with fail)
    have HBn := ((Below.refl wa.heap.size wa).alloc (Nat.le_refl _) (.cells #[.string o.res, .string o.org, .bool o.thr, .int .i64 o.cnt, .int .u8 o.strat, .string o.ref, .int .u8 o.shape, .int .i64 o.warm, .int .i64 o.queue, .bool o.cl, .int .i64 o.id, .bool o.fb] 41)).drew
    have HROW00 := Lib.hid (show (wa.alloc (.cells #[.string o.res, .string o.org, .bool o.thr, .int .i64 o.cnt, .int .u8 o.strat, .string o.ref, .int .u8 o.shape, .int .i64 o.warm, .int .i64 o.queue, .bool o.cl, .int .i64 o.id, .bool o.fb] 41)).drew.heap[wa.heap.size]? = some (.cells #[.string o.res, .string o.org, .bool o.thr, .int .i64 o.cnt, .int .u8 o.strat, .string o.ref, .int .u8 o.shape, .int .i64 o.warm, .int .i64 o.queue, .bool o.cl, .int .i64 o.id, .bool o.fb] 41) from World.alloc_heap_new wa _)
    have HBN := Lib.hid HBn
    refine hK.out _ _ (SB.out _ HBn) (fun hHeld => ?_)
    clear hK K
    try simp only [Act.put, List.getElem_toArray, List.getElem_cons_succ, List.getElem_cons_zero, List.setIfInBounds_toArray, List.set_cons_zero, List.set_cons_succ]
    refine wpAnyH_ready (rs := [0]) (by kernel_rfl) (by simp) (AllReadyH.cons rfl (fun K hK => ?_) AllReadyH.nil)
    go_simp
    try (go_wp2_with fail)
    have HBn := HBN.out.alloc HBN.out.size (.cells #[] 41)
    have HROW0 := Lib.hid (show ((wa.alloc (.cells #[.string o.res, .string o.org, .bool o.thr, .int .i64 o.cnt, .int .u8 o.strat, .string o.ref, .int .u8 o.shape, .int .i64 o.warm, .int .i64 o.queue, .bool o.cl, .int .i64 o.id, .bool o.fb] 41)).drew.alloc (.cells #[] 41)).heap[wa.heap.size]? = some (.cells #[.string o.res, .string o.org, .bool o.thr, .int .i64 o.cnt, .int .u8 o.strat, .string o.ref, .int .u8 o.shape, .int .i64 o.warm, .int .i64 o.queue, .bool o.cl, .int .i64 o.id, .bool o.fb] 41) from by
      refine (get_alloc _ _ _).trans ((if_neg ?_).trans HROW00.out)
      show ¬ wa.heap.size = (wa.alloc (.cells #[.string o.res, .string o.org, .bool o.thr, .int .i64 o.cnt, .int .u8 o.strat, .string o.ref, .int .u8 o.shape, .int .i64 o.warm, .int .i64 o.queue, .bool o.cl, .int .i64 o.id, .bool o.fb] 41)).heap.size
      simp only [World.size_alloc]; omega)
    have HLT5 := Lib.hid (show wa.heap.size < ((wa.alloc (.cells #[.string o.res, .string o.org, .bool o.thr, .int .i64 o.cnt, .int .u8 o.strat, .string o.ref, .int .u8 o.shape, .int .i64 o.warm, .int .i64 o.queue, .bool o.cl, .int .i64 o.id, .bool o.fb] 41)).drew.alloc (.cells #[] 41)).heap.size from by show _ < ((wa.alloc (.cells #[.string o.res, .string o.org, .bool o.thr, .int .i64 o.cnt, .int .u8 o.strat, .string o.ref, .int .u8 o.shape, .int .i64 o.warm, .int .i64 o.queue, .bool o.cl, .int .i64 o.id, .bool o.fb] 41)).alloc (.cells #[] 41)).heap.size; simp only [World.size_alloc]; omega)
    have HOWN := Lib.hid (show ((wa.alloc (.cells #[.string o.res, .string o.org, .bool o.thr, .int .i64 o.cnt, .int .u8 o.strat, .string o.ref, .int .u8 o.shape, .int .i64 o.warm, .int .i64 o.queue, .bool o.cl, .int .i64 o.id, .bool o.fb] 41)).drew.alloc (.cells #[] 41)).ownsRow wa.heap.size 41 12 (.slice (some ⟨wa.heap.size + 1, 0, none⟩) 0 0) 0 [] from by
      have := World.ownsRow_lit (base := wa.heap.size) (size := 12) (e := 41) (wa.alloc (.cells #[.string o.res, .string o.org, .bool o.thr, .int .i64 o.cnt, .int .u8 o.strat, .string o.ref, .int .u8 o.shape, .int .i64 o.warm, .int .i64 o.queue, .bool o.cl, .int .i64 o.id, .bool o.fb] 41)).drew #[] 0 HBN.out.size (by decide) rfl
      rwa [show (wa.alloc (.cells #[.string o.res, .string o.org, .bool o.thr, .int .i64 o.cnt, .int .u8 o.strat, .string o.ref, .int .u8 o.shape, .int .i64 o.warm, .int .i64 o.queue, .bool o.cl, .int .i64 o.id, .bool o.fb] 41)).drew.heap.size = wa.heap.size + 1 from World.size_alloc _ _] at this)
    have HBN := Lib.hid HBn
    clear HROW00

    refine hK.out _ _ (SB.out _ HBn) (fun hHeld => ?_)
    clear hK K
    try simp only [Act.put, List.getElem_toArray, List.getElem_cons_succ, List.getElem_cons_zero, List.setIfInBounds_toArray, List.set_cons_zero, List.set_cons_succ]
    refine wpAnyH_ready (rs := [2]) (by kernel_rfl) (by simp) (AllReadyH.cons rfl (fun K hK => ?_) AllReadyH.nil)
    rw [if_pos (by rfl)]
    refine wp_append_fl _ (.tmp 9) (.tmp 10) 22 rfl wa.heap.size 41 i0 _ 12 120 Try.underlying22 hi hz0 hz1 hz2 rfl (by decide) (.slice (some ⟨wa.heap.size + 1, 0, none⟩) 0 0) 0 [] rfl HOWN.out a len cap (flatF fs) rfl hnil (by rw [flat_len, Hl.out]) (fun ad e => HNW.out _ HBN.out ad e) flat_one (by unfold maxLen; omega) (by omega) HBN.out.size ?_
    intro v4 w4 hown4 hgr4
    rw [Nat.zero_add, List.nil_append] at hown4
    have HB4 := Lib.hid (HBN.out.grown hgr4 HBN.out.size (fun k e => by
      have : wa.heap.size + 1 = k := by simpa [Value.ownBlock] using e
      omega))
    have HROW := Lib.hid ((hgr4.block wa.heap.size HLT5.out (by simp [Value.ownBlock])).trans HROW0.out)
    have HOWN4 := Lib.hid hown4
    have HOWN5 := Lib.hid hown4
    have HBN := HB4
    clear hgr4 hown4 HOWN
    refine hK.out _ _ (SB.out _ HB4.out) (fun hHeld => ?_)
    clear hK K
    try simp only [Act.put, List.getElem_toArray, List.getElem_cons_succ, List.getElem_cons_zero, List.setIfInBounds_toArray, List.set_cons_zero, List.set_cons_succ]
    refine wpAnyH_ready (rs := [5]) (by kernel_rfl) (by simp) (AllReadyH.cons rfl (fun K hK => ?_) AllReadyH.nil)
    rw [if_pos (by rfl)]
    refine wp_append_fl _ (.tmp 11) (.tmp 13) 22 rfl wa.heap.size 41 i0 _ 12 120 Try.underlying22 hi hz0 hz1 hz2 rfl (by decide) v4 len (flatF fs) rfl HOWN5.out (some ⟨wa.heap.size, 0, none⟩) 1 1 (flatF [o]) rfl (fun h => by cases h) rfl (one_cells2 _ _ o HROW.out) flat_one (by unfold maxLen; omega) (by omega) HBN.out.size ?_
    intro v5 w5 hown5 hgr5
    obtain ⟨k4, hk4, hk5⟩ : ∃ k4, v4.ownBlock = k4 ∧ ∀ k, k4 = some k → wa.heap.size ≤ k := ⟨_, rfl, fun k e => own_ge HOWN5.out e⟩
    have HB5' := HBN.out.grown hgr5 HBN.out.size (fun k e => hk5 k (hk4.symm.trans e))
    rw [flat_nil_app] at hown5
    obtain ⟨a2, c2, rfl, hfl, _⟩ := flows_own hown5
    have HFL := Lib.hid hfl
    have HS5 := Lib.hid ((SB.out _ HB5').1.1)
    have HZ5 := Lib.hid (Nat.lt_of_lt_of_le hzw HB5'.size)
    have HB5 := Lib.hid (HBA.out.trans (HB5'.mono HBA.out.size))
    refine hK.out _ _ (SB.out _ HB5') (fun hHeld => ?_)
    clear hfl hown5 hgr5 hk4 hk5 k4 HB5' HBN HROW HOWN5
    clear hK K
    try simp only [Act.put, List.getElem_toArray, List.getElem_cons_succ, List.getElem_cons_zero, List.setIfInBounds_toArray, List.set_cons_zero, List.set_cons_succ]
    refine wpAnyH_take (i := 6) (v := ?_) rfl (by kernel_rfl) (by kernel_rfl) (by kernel_rfl) (fun _ _ _ h => h) (Or.inl ⟨by rfl, ?hy⟩) (by assumption) ?_
    case hy => intro w hSw; (try dsimp only at hSw); go_simp; try with_reducible rfl
    try simp only [Act.put, List.getElem_toArray, List.getElem_cons_succ, List.getElem_cons_zero, List.setIfInBounds_toArray, List.set_cons_zero, List.set_cons_succ]
    refine wpAnyH_done (by kernel_rfl) ?_ _
    clear hHeld
    clear HS0 SB HNW HBA
    go_wp2_with (fail)
    go_loopw [8] (fun x wr => ∃ i : Nat, i ≤ len ∧ x = .int .i64 i ∧ Below w5.heap.size w5 wr) (fun x _ => len - (intOf x).toNat)
    case atStart => exact ⟨0, Nat.zero_le _, rfl, Below.refl _ _⟩
    case round =>
      obtain ⟨i, hi, rfl, hbr⟩ := hrel
      by_cases hlt : i < len
      · obtain ⟨b, off, rfl, hl4, hfc⟩ : ∃ b off, a = some ⟨b, off, none⟩ ∧ b < w.heap.size ∧ ∀ j f, fs[j]? = some f → FlowAt w b (off + j * 12) f := by
          rcases Hf.out with h | h
          · have := Hl.out; rw [h] at this; simp at this; omega
          · exact h
        obtain ⟨b2, off2, rfl, hl5, hfc2⟩ : ∃ b off, a2 = some ⟨b, off, none⟩ ∧ b < w5.heap.size ∧ ∀ j f, (fs ++ [o])[j]? = some f → FlowAt w5 b (off + j * 12) f := by
          rcases HFL.out with h | h
          · simp at h
          · exact h
        obtain ⟨f, hg⟩ : ∃ g, fs[i]? = some g := ⟨_, List.getElem?_eq_getElem (by rw [Hl.out]; exact hlt)⟩
        have hg2 : (fs ++ [o])[i]? = some f := by rw [List.getElem?_append_left (by rw [Hl.out]; exact hlt)]; exact hg
        have hbw : Below w.heap.size w wr := HB5.out.trans (hbr.mono HB5.out.size)
        have bwr : b < wr.heap.size := Nat.lt_of_lt_of_le hl4 hbw.size
        have wwr : w.heap.size < wr.heap.size := by have := hbr.size; have := HZ5.out; omega
        have bwr2 : b2 < wr.heap.size := Nat.lt_of_lt_of_le hl5 hbr.size
        have HF := (hfc i f hg).of_block (hbw.block b hl4)
        have hcl : wr.cell? ⟨w.heap.size, 0, none⟩ = some (.string o.res) := (hbr.cell (p := ⟨w.heap.size, 0, none⟩) HZ5.out).trans HS5.out
        have SS := Lib.hid (show ∀ wa wb : World, (fun wx => (wx.cell? ⟨b, off + i * 12, none⟩ = some (.string f.res) ∧ wx.cell? ⟨w.heap.size, 0, none⟩ = some (.string o.res)) ∧ Below wr.heap.size wr wx) wa → Below wa.heap.size wa wb → (fun wx => (wx.cell? ⟨b, off + i * 12, none⟩ = some (.string f.res) ∧ wx.cell? ⟨w.heap.size, 0, none⟩ = some (.string o.res)) ∧ Below wr.heap.size wr wx) wb from fun wa wb hs hb => by
          obtain ⟨⟨h0, h1⟩, hz⟩ := hs
          have hzs := hz.size
          exact ⟨⟨(hb.cell (by show b < _; omega)).trans h0, (hb.cell (by show w.heap.size < _; omega)).trans h1⟩, hz.trans (hb.mono hzs)⟩)
        have HS0 := Lib.hid (show (fun wx => (wx.cell? ⟨b, off + i * 12, none⟩ = some (.string f.res) ∧ wx.cell? ⟨w.heap.size, 0, none⟩ = some (.string o.res)) ∧ Below wr.heap.size wr wx) wr.drew from ⟨⟨HF.c0, hcl⟩, (Below.refl _ _).drew⟩)
        have Hc1 := Lib.hid (fun (wx : World) (hb : Below wr.heap.size wr wx) => concerns_any fs f origin i b off len cap wx Hl.out hg (by omega) (fun j g hj => ((hfc j g hj).of_block (hbw.block b hl4)).of_block (hb.block b bwr)) (Nat.lt_of_lt_of_le bwr hb.size))
        have Hc2 := Lib.hid (fun (wx : World) (hb : Below wr.heap.size wr wx) => concerns_any (fs ++ [o]) f origin i b2 off2 (len + 1) c2 wx (by rw [List.length_append, Hl.out]; rfl) hg2 (by omega) (fun j g hj => ((hfc2 j g hj).of_block (hbr.block b2 hl5)).of_block (hb.block b2 bwr2)) (Nat.lt_of_lt_of_le bwr2 hb.size))
        have i0 : (0 : Int) ≤ i := by omega
        have i1 : (i : Int) < len := by omega
        have d1 := HF.c0
        have HBW := Lib.hid hbr
        clear hfc hfc2 hg hg2 bwr wwr bwr2 HF hbr hl4 hl5 hbw
        cases g1 : (f.res.toList == o.res.toList)
        · rw [conc_app g1] at Hc2
          generalize concF fs f origin = CC at *
          have hne : (CC != CC) = false := by simp
          go_wp2_with (fail)
          refine wp_region_noPanic ?_
          refine wp_region_held_drew (S := fun wx => (wx.cell? ⟨b, off + i * 12, none⟩ = some (.string f.res) ∧ wx.cell? ⟨w.heap.size, 0, none⟩ = some (.string o.res)) ∧ Below wr.heap.size wr wx) (by kernel_rfl) ?_ (fun hHeld => ?_)
          · exact HS0.out
          refine wpAnyH_take (i := 0) (v := ?_) rfl (by kernel_rfl) (by kernel_rfl) (by kernel_rfl) (fun _ _ _ h => h) (Or.inl ⟨by rfl, ?hy⟩) (by assumption) ?_
          case hy => intro w hSw; (try dsimp only at hSw); go_simp; try with_reducible rfl
          try simp only [Act.put, List.getElem_toArray, List.getElem_cons_succ, List.getElem_cons_zero, List.setIfInBounds_toArray, List.set_cons_zero, List.set_cons_succ]
          refine wpAnyH_take (i := 1) (v := ?_) rfl (by kernel_rfl) (by kernel_rfl) (by kernel_rfl) (fun _ _ _ h => h) (Or.inl ⟨by rfl, ?hy⟩) (by assumption) ?_
          case hy => intro w hSw; (try dsimp only at hSw); go_simp; try with_reducible rfl
          try simp only [Act.put, List.getElem_toArray, List.getElem_cons_succ, List.getElem_cons_zero, List.setIfInBounds_toArray, List.set_cons_zero, List.set_cons_succ]
          refine wpAnyH_take (i := 2) (v := ?_) rfl (by kernel_rfl) (by kernel_rfl) (by kernel_rfl) (fun _ _ _ h => h) (Or.inl ⟨by rfl, ?hy⟩) (by assumption) ?_
          case hy => intro w hSw; (try dsimp only at hSw); go_simp; try with_reducible rfl
          try simp only [Act.put, List.getElem_toArray, List.getElem_cons_succ, List.getElem_cons_zero, List.setIfInBounds_toArray, List.set_cons_zero, List.set_cons_succ]
          refine wpAnyH_take (i := 3) (v := ?_) rfl (by kernel_rfl) (by kernel_rfl) (by kernel_rfl) (fun _ _ _ h => h) (Or.inl ⟨by rfl, ?hy⟩) (by assumption) ?_
          case hy => intro w hSw; (try dsimp only at hSw); go_simp; try with_reducible rfl
          try simp only [Act.put, List.getElem_toArray, List.getElem_cons_succ, List.getElem_cons_zero, List.setIfInBounds_toArray, List.set_cons_zero, List.set_cons_succ]
          refine wpAnyH_take (i := 4) (v := ?_) rfl (by kernel_rfl) (by kernel_rfl) (by kernel_rfl) (fun _ _ _ h => h) (Or.inl ⟨by rfl, ?hy⟩) (by assumption) ?_
          case hy => intro w hSw; (try dsimp only at hSw); go_simp; try with_reducible rfl
          try simp only [Act.put, List.getElem_toArray, List.getElem_cons_succ, List.getElem_cons_zero, List.setIfInBounds_toArray, List.set_cons_zero, List.set_cons_succ]
          refine wpAnyH_take (i := 5) (v := ?_) rfl (by kernel_rfl) (by kernel_rfl) (by kernel_rfl) (fun _ _ _ h => h) (Or.inl ⟨by rfl, ?hy⟩) (by assumption) ?_
          case hy => intro w hSw; (try dsimp only at hSw); go_simp; try with_reducible rfl
          try simp only [Act.put, List.getElem_toArray, List.getElem_cons_succ, List.getElem_cons_zero, List.setIfInBounds_toArray, List.set_cons_zero, List.set_cons_succ]
          refine wpAnyH_take (i := 6) (v := ?_) rfl (by kernel_rfl) (by kernel_rfl) (by kernel_rfl) (fun _ _ _ h => h) (Or.inl ⟨by rfl, ?hy⟩) (by assumption) ?_
          case hy => intro w hSw; (try dsimp only at hSw); go_simp; try with_reducible rfl
          try simp only [Act.put, List.getElem_toArray, List.getElem_cons_succ, List.getElem_cons_zero, List.setIfInBounds_toArray, List.set_cons_zero, List.set_cons_succ]
          refine wpAnyH_take (i := 7) (v := ?_) rfl (by kernel_rfl) (by kernel_rfl) (by kernel_rfl) (fun _ _ _ h => h) (Or.inl ⟨by rfl, ?hy⟩) (by assumption) ?_
          case hy => intro w hSw; (try dsimp only at hSw); go_simp; try with_reducible rfl
          try simp only [Act.put, List.getElem_toArray, List.getElem_cons_succ, List.getElem_cons_zero, List.setIfInBounds_toArray, List.set_cons_zero, List.set_cons_succ]
          refine wpAnyH_take (i := 8) (v := ?_) rfl (by kernel_rfl) (by kernel_rfl) (by kernel_rfl) (fun _ _ _ h => h) (Or.inl ⟨by rfl, ?hy⟩) (by assumption) ?_
          case hy => intro w hSw; (try dsimp only at hSw); go_simp; try with_reducible rfl
          try simp only [Act.put, List.getElem_toArray, List.getElem_cons_succ, List.getElem_cons_zero, List.setIfInBounds_toArray, List.set_cons_zero, List.set_cons_succ]
          refine wpAnyH_take (i := 9) (v := ?_) rfl (by kernel_rfl) (by kernel_rfl) (by kernel_rfl) (fun _ _ _ h => h) (Or.inl ⟨by rfl, ?hy⟩) (by assumption) ?_
          case hy => intro w hSw; (try dsimp only at hSw); go_simp; try with_reducible rfl
          try simp only [Act.put, List.getElem_toArray, List.getElem_cons_succ, List.getElem_cons_zero, List.setIfInBounds_toArray, List.set_cons_zero, List.set_cons_succ]
          refine wpAnyH_take (i := 10) (v := ?_) rfl (by kernel_rfl) (by kernel_rfl) (by kernel_rfl) (fun _ _ _ h => h) (Or.inl ⟨by rfl, ?hy⟩) (by assumption) ?_
          case hy => intro w hSw; (try dsimp only at hSw); go_simp; try with_reducible rfl
          try simp only [Act.put, List.getElem_toArray, List.getElem_cons_succ, List.getElem_cons_zero, List.setIfInBounds_toArray, List.set_cons_zero, List.set_cons_succ]
          refine wpAnyH_take (i := 11) (v := ?_) rfl (by kernel_rfl) (by kernel_rfl) (by kernel_rfl) (fun _ _ _ h => h) (Or.inl ⟨by rfl, ?hy⟩) (by assumption) ?_
          case hy => intro w hSw; (try dsimp only at hSw); go_simp; try with_reducible rfl
          try simp only [Act.put, List.getElem_toArray, List.getElem_cons_succ, List.getElem_cons_zero, List.setIfInBounds_toArray, List.set_cons_zero, List.set_cons_succ]
          refine wpAnyH_take (i := 13) (v := ?_) rfl (by kernel_rfl) (by kernel_rfl) (by kernel_rfl) (fun _ _ _ h => h) (Or.inl ⟨by rfl, ?hy⟩) (by assumption) ?_
          case hy => intro w hSw; (try dsimp only at hSw); go_simp; try with_reducible rfl
          try simp only [Act.put, List.getElem_toArray, List.getElem_cons_succ, List.getElem_cons_zero, List.setIfInBounds_toArray, List.set_cons_zero, List.set_cons_succ]
          refine wpAnyH_take (i := 14) (v := ?_) rfl (by kernel_rfl) (by kernel_rfl) (by kernel_rfl) (fun _ _ _ h => h) (Or.inl ⟨by rfl, ?hy⟩) (by assumption) ?_
          case hy => intro w hSw; (try dsimp only at hSw); go_simp; try with_reducible rfl
          try simp only [Act.put, List.getElem_toArray, List.getElem_cons_succ, List.getElem_cons_zero, List.setIfInBounds_toArray, List.set_cons_zero, List.set_cons_succ]
          refine wpAnyH_take (i := 15) (v := ?_) rfl (by kernel_rfl) (by kernel_rfl) (by kernel_rfl) (fun _ _ _ h => h) (Or.inl ⟨by rfl, ?hy⟩) (by assumption) ?_
          case hy => intro w hSw; (try dsimp only at hSw); go_simp; try with_reducible rfl
          try simp only [Act.put, List.getElem_toArray, List.getElem_cons_succ, List.getElem_cons_zero, List.setIfInBounds_toArray, List.set_cons_zero, List.set_cons_succ]
          refine wpAnyH_ready (rs := [12]) (by kernel_rfl) (by simp) (AllReadyH.cons rfl (fun K hK => ?_) AllReadyH.nil)
          go_simp
          go_at_call 12; refine (Hc1.out _ (by first | exact HS0.out.2 | exact hHeld.2)).mono ?_; rintro e wb1 ⟨rfl, hb1⟩
          try (go_wp2_with fail)
          refine hK.out _ _ ?_ (fun hHeld => ?_)
          · exact SS.out _ _ (by first | exact HS0.out | exact hHeld) hb1
          clear hK K
          try simp only [Act.put, List.getElem_toArray, List.getElem_cons_succ, List.getElem_cons_zero, List.setIfInBounds_toArray, List.set_cons_zero, List.set_cons_succ]
          refine wpAnyH_ready (rs := [16]) (by kernel_rfl) (by simp) (AllReadyH.cons rfl (fun K hK => ?_) AllReadyH.nil)
          go_simp
          go_at_call 12; refine (Hc2.out _ (by first | exact hHeld.2 | exact HS0.out.2)).mono ?_; rintro e wb2 ⟨rfl, hb2⟩
          try (go_wp2_with fail)
          refine hK.out _ _ ?_ (fun hHeld => ?_)
          · exact SS.out _ _ (by first | exact hHeld | exact HS0.out) hb2
          clear hK K
          try simp only [Act.put, List.getElem_toArray, List.getElem_cons_succ, List.getElem_cons_zero, List.setIfInBounds_toArray, List.set_cons_zero, List.set_cons_succ]
          refine wpAnyH_take (i := 17) (v := ?_) rfl (by kernel_rfl) (by kernel_rfl) (by kernel_rfl) (fun _ _ _ h => h) (Or.inl ⟨by rfl, ?hy⟩) (by assumption) ?_
          case hy => intro w hSw; (try dsimp only at hSw); go_simp; try with_reducible rfl
          try simp only [Act.put, List.getElem_toArray, List.getElem_cons_succ, List.getElem_cons_zero, List.setIfInBounds_toArray, List.set_cons_zero, List.set_cons_succ]
          refine wpAnyH_take (i := 18) (v := ?_) rfl (by kernel_rfl) (by kernel_rfl) (by kernel_rfl) (fun _ _ _ h => h) (Or.inl ⟨by rfl, ?hy⟩) (by assumption) ?_
          case hy => intro w hSw; (try dsimp only at hSw); go_simp; try with_reducible rfl
          try simp only [Act.put, List.getElem_toArray, List.getElem_cons_succ, List.getElem_cons_zero, List.setIfInBounds_toArray, List.set_cons_zero, List.set_cons_succ]
          refine wpAnyH_done (by kernel_rfl) ?_ _
          refine NoPanic.normal ?_
          have HZ := Lib.hid (HBW.out.trans (hHeld.2.mono HBW.out.size))
          clear hHeld HS0 SS
          go_wp2_with (fail)
          exact ⟨⟨i + 1, by omega, by go_num, HZ.out⟩, by simp [intOf]; omega⟩
        · clear Hc1 Hc2
          go_wp2_with (fail)
          refine wp_region_noPanic ?_
          refine wp_region_held_drew (S := fun wx => (wx.cell? ⟨b, off + i * 12, none⟩ = some (.string f.res) ∧ wx.cell? ⟨w.heap.size, 0, none⟩ = some (.string o.res)) ∧ Below wr.heap.size wr wx) (by kernel_rfl) ?_ (fun hHeld => ?_)
          · exact HS0.out
          refine wpAnyH_take (i := 0) (v := ?_) rfl (by kernel_rfl) (by kernel_rfl) (by kernel_rfl) (fun _ _ _ h => h) (Or.inl ⟨by rfl, ?hy⟩) (by assumption) ?_
          case hy => intro w hSw; (try dsimp only at hSw); go_simp; try with_reducible rfl
          try simp only [Act.put, List.getElem_toArray, List.getElem_cons_succ, List.getElem_cons_zero, List.setIfInBounds_toArray, List.set_cons_zero, List.set_cons_succ]
          refine wpAnyH_take (i := 1) (v := ?_) rfl (by kernel_rfl) (by kernel_rfl) (by kernel_rfl) (fun _ _ _ h => h) (Or.inl ⟨by rfl, ?hy⟩) (by assumption) ?_
          case hy => intro w hSw; (try dsimp only at hSw); go_simp; try with_reducible rfl
          try simp only [Act.put, List.getElem_toArray, List.getElem_cons_succ, List.getElem_cons_zero, List.setIfInBounds_toArray, List.set_cons_zero, List.set_cons_succ]
          refine wpAnyH_take (i := 2) (v := ?_) rfl (by kernel_rfl) (by kernel_rfl) (by kernel_rfl) (fun _ _ _ h => h) (Or.inl ⟨by rfl, ?hy⟩) (by assumption) ?_
          case hy => intro w hSw; (try dsimp only at hSw); go_simp; try with_reducible rfl
          try simp only [Act.put, List.getElem_toArray, List.getElem_cons_succ, List.getElem_cons_zero, List.setIfInBounds_toArray, List.set_cons_zero, List.set_cons_succ]
          refine wpAnyH_take (i := 3) (v := ?_) rfl (by kernel_rfl) (by kernel_rfl) (by kernel_rfl) (fun _ _ _ h => h) (Or.inl ⟨by rfl, ?hy⟩) (by assumption) ?_
          case hy => intro w hSw; (try dsimp only at hSw); go_simp; try with_reducible rfl
          try simp only [Act.put, List.getElem_toArray, List.getElem_cons_succ, List.getElem_cons_zero, List.setIfInBounds_toArray, List.set_cons_zero, List.set_cons_succ]
          refine wpAnyH_take (i := 4) (v := ?_) rfl (by kernel_rfl) (by kernel_rfl) (by kernel_rfl) (fun _ _ _ h => h) (Or.inl ⟨by rfl, ?hy⟩) (by assumption) ?_
          case hy => intro w hSw; (try dsimp only at hSw); go_simp; try with_reducible rfl
          try simp only [Act.put, List.getElem_toArray, List.getElem_cons_succ, List.getElem_cons_zero, List.setIfInBounds_toArray, List.set_cons_zero, List.set_cons_succ]
          refine wpAnyH_take (i := 5) (v := ?_) rfl (by kernel_rfl) (by kernel_rfl) (by kernel_rfl) (fun _ _ _ h => h) (Or.inl ⟨by rfl, ?hy⟩) (by assumption) ?_
          case hy => intro w hSw; (try dsimp only at hSw); go_simp; try with_reducible rfl
          try simp only [Act.put, List.getElem_toArray, List.getElem_cons_succ, List.getElem_cons_zero, List.setIfInBounds_toArray, List.set_cons_zero, List.set_cons_succ]
          refine wpAnyH_take (i := 6) (v := ?_) rfl (by kernel_rfl) (by kernel_rfl) (by kernel_rfl) (fun _ _ _ h => h) (Or.inl ⟨by rfl, ?hy⟩) (by assumption) ?_
          case hy => intro w hSw; (try dsimp only at hSw); go_simp; try with_reducible rfl
          try simp only [Act.put, List.getElem_toArray, List.getElem_cons_succ, List.getElem_cons_zero, List.setIfInBounds_toArray, List.set_cons_zero, List.set_cons_succ]
          refine wpAnyH_take (i := 7) (v := ?_) rfl (by kernel_rfl) (by kernel_rfl) (by kernel_rfl) (fun _ _ _ h => h) (Or.inl ⟨by rfl, ?hy⟩) (by assumption) ?_
          case hy => intro w hSw; (try dsimp only at hSw); go_simp; try with_reducible rfl
          try simp only [Act.put, List.getElem_toArray, List.getElem_cons_succ, List.getElem_cons_zero, List.setIfInBounds_toArray, List.set_cons_zero, List.set_cons_succ]
          refine wpAnyH_take (i := 8) (v := ?_) rfl (by kernel_rfl) (by kernel_rfl) (by kernel_rfl) (fun _ _ _ h => h) (Or.inl ⟨by rfl, ?hy⟩) (by assumption) ?_
          case hy => intro w hSw; (try dsimp only at hSw); go_simp; try with_reducible rfl
          try simp only [Act.put, List.getElem_toArray, List.getElem_cons_succ, List.getElem_cons_zero, List.setIfInBounds_toArray, List.set_cons_zero, List.set_cons_succ]
          refine wpAnyH_take (i := 9) (v := undef) rfl (by kernel_rfl) (by kernel_rfl) (by kernel_rfl) (fun _ _ _ h => h) (Or.inr ⟨by rfl, rfl⟩) (by assumption) ?_
          try simp only [Act.put, List.getElem_toArray, List.getElem_cons_succ, List.getElem_cons_zero, List.setIfInBounds_toArray, List.set_cons_zero, List.set_cons_succ]
          refine wpAnyH_take (i := 10) (v := undef) rfl (by kernel_rfl) (by kernel_rfl) (by kernel_rfl) (fun _ _ _ h => h) (Or.inr ⟨by rfl, rfl⟩) (by assumption) ?_
          try simp only [Act.put, List.getElem_toArray, List.getElem_cons_succ, List.getElem_cons_zero, List.setIfInBounds_toArray, List.set_cons_zero, List.set_cons_succ]
          refine wpAnyH_take (i := 11) (v := undef) rfl (by kernel_rfl) (by kernel_rfl) (by kernel_rfl) (fun _ _ _ h => h) (Or.inr ⟨by rfl, rfl⟩) (by assumption) ?_
          try simp only [Act.put, List.getElem_toArray, List.getElem_cons_succ, List.getElem_cons_zero, List.setIfInBounds_toArray, List.set_cons_zero, List.set_cons_succ]
          refine wpAnyH_take (i := 13) (v := undef) rfl (by kernel_rfl) (by kernel_rfl) (by kernel_rfl) (fun _ _ _ h => h) (Or.inr ⟨by rfl, rfl⟩) (by assumption) ?_
          try simp only [Act.put, List.getElem_toArray, List.getElem_cons_succ, List.getElem_cons_zero, List.setIfInBounds_toArray, List.set_cons_zero, List.set_cons_succ]
          refine wpAnyH_take (i := 14) (v := undef) rfl (by kernel_rfl) (by kernel_rfl) (by kernel_rfl) (fun _ _ _ h => h) (Or.inr ⟨by rfl, rfl⟩) (by assumption) ?_
          try simp only [Act.put, List.getElem_toArray, List.getElem_cons_succ, List.getElem_cons_zero, List.setIfInBounds_toArray, List.set_cons_zero, List.set_cons_succ]
          refine wpAnyH_take (i := 15) (v := undef) rfl (by kernel_rfl) (by kernel_rfl) (by kernel_rfl) (fun _ _ _ h => h) (Or.inr ⟨by rfl, rfl⟩) (by assumption) ?_
          try simp only [Act.put, List.getElem_toArray, List.getElem_cons_succ, List.getElem_cons_zero, List.setIfInBounds_toArray, List.set_cons_zero, List.set_cons_succ]
          refine wpAnyH_ready (rs := [12]) (by kernel_rfl) (by simp) (AllReadyH.cons rfl (fun K hK => ?_) AllReadyH.nil)
          rw [if_neg (by exact Bool.false_ne_true)]
          refine hK.out _ _ hHeld (fun hHeld => ?_)
          clear hK K
          try simp only [Act.put, List.getElem_toArray, List.getElem_cons_succ, List.getElem_cons_zero, List.setIfInBounds_toArray, List.set_cons_zero, List.set_cons_succ]
          refine wpAnyH_ready (rs := [16]) (by kernel_rfl) (by simp) (AllReadyH.cons rfl (fun K hK => ?_) AllReadyH.nil)
          rw [if_neg (by exact Bool.false_ne_true)]
          refine hK.out _ _ hHeld (fun hHeld => ?_)
          clear hK K
          try simp only [Act.put, List.getElem_toArray, List.getElem_cons_succ, List.getElem_cons_zero, List.setIfInBounds_toArray, List.set_cons_zero, List.set_cons_succ]
          refine wpAnyH_take (i := 17) (v := undef) rfl (by kernel_rfl) (by kernel_rfl) (by kernel_rfl) (fun _ _ _ h => h) (Or.inr ⟨by rfl, rfl⟩) (by assumption) ?_
          try simp only [Act.put, List.getElem_toArray, List.getElem_cons_succ, List.getElem_cons_zero, List.setIfInBounds_toArray, List.set_cons_zero, List.set_cons_succ]
          refine wpAnyH_take (i := 18) (v := ?_) rfl (by kernel_rfl) (by kernel_rfl) (by kernel_rfl) (fun _ _ _ h => h) (Or.inl ⟨by rfl, ?hy⟩) (by assumption) ?_
          case hy => intro w hSw; (try dsimp only at hSw); go_simp; try with_reducible rfl
          try simp only [Act.put, List.getElem_toArray, List.getElem_cons_succ, List.getElem_cons_zero, List.setIfInBounds_toArray, List.set_cons_zero, List.set_cons_succ]
          refine wpAnyH_done (by kernel_rfl) ?_ _
          refine NoPanic.normal ?_
          have HZ := Lib.hid (HBW.out.trans (hHeld.2.mono HBW.out.size))
          clear hHeld HS0 SS
          go_wp2_with (fail)
          exact ⟨⟨i + 1, by omega, by go_num, HZ.out⟩, by simp [intOf]; omega⟩
      · have i1 : ¬ (i : Int) < len := by omega
        have HX := Lib.hid (HLV.out wr)
        go_wp2_with (fail)
        refine HX.out.mono ?_
        rintro e wb ⟨rfl, hb⟩
        go_wp2_with (fail)
        go_ret
        exact ⟨rfl, HB5.out.trans ((hbr.trans (hb.mono hbr.size)).mono HB5.out.size)⟩

theorem apart_walk (w : World) (a : Option Addr) (len cap : Nat) (V : Nat → Nat → Value) (hm : len ≤ 140737488351232) (hr : RecsAt w a 12 len V) (hB : len * 120 ≤ 140737488351232) (hnn : a = none → len = 0 ∧ cap = 0)
    (f0 : ∀ j, j < len → V j 0 = .string (strOf (V j 0))) (f1 : ∀ j, j < len → V j 1 = .string (strOf (V j 1))) (f2 : ∀ j, j < len → V j 2 = .bool (boolOf (V j 2)))
    (f3 : ∀ j, j < len → V j 3 = .int .i64 (intOf (V j 3)) ∧ (Lit.int .i64 (intOf (V j 3))).wf = true) (f4 : ∀ j, j < len → V j 4 = .int .u8 (intOf (V j 4)) ∧ (Lit.int .u8 (intOf (V j 4))).wf = true)
    (f5 : ∀ j, j < len → V j 5 = .string (strOf (V j 5))) (f6 : ∀ j, j < len → V j 6 = .int .u8 (intOf (V j 6)) ∧ (Lit.int .u8 (intOf (V j 6))).wf = true)
    (f7 : ∀ j, j < len → V j 7 = .int .i64 (intOf (V j 7)) ∧ (Lit.int .i64 (intOf (V j 7))).wf = true) (f8 : ∀ j, j < len → V j 8 = .int .i64 (intOf (V j 8)) ∧ (Lit.int .i64 (intOf (V j 8))).wf = true)
    (f9 : ∀ j, j < len → V j 9 = .bool (boolOf (V j 9))) (f10 : ∀ j, j < len → V j 10 = .int .i64 (intOf (V j 10)) ∧ (Lit.int .i64 (intOf (V j 10))).wf = true) (f11 : ∀ j, j < len → V j 11 = .bool (boolOf (V j 11)))
    (s0 s1 : ByteArray) (thr : Bool) (ocnt : Int) (w3 : (Lit.int .i64 ocnt).wf = true) (strat : Int) (w4 : (Lit.int .u8 strat).wf = true) (ref : ByteArray) (shape : Int) (w6 : (Lit.int .u8 shape).wf = true) (warm : Int) (w7 : (Lit.int .i64 warm).wf = true) (queue : Int) (w8 : (Lit.int .i64 queue).wf = true) (cl : Bool) (id : Int) (w10 : (Lit.int .i64 id).wf = true) (fb : Bool)
    (origin : ByteArray) (hz : origin.size ≤ maxLen) :
    Calls Try.prog 5 #[.slice a len cap, .agg #[.string s0, .string s1, .bool thr, .int .i64 ocnt, .int .u8 strat, .string ref, .int .u8 shape, .int .i64 warm, .int .i64 queue, .bool cl, .int .i64 id, .bool fb], .string origin] w fun e w' => e = .returned (.bool true) ∧ Below w.heap.size w w' :=
  apart_law w (flowsOf V len) a len cap (flowsOf_length V len) hB (flows_at hr f0 f1 f2 f3 f4 f5 f6 f7 f8 f9 f10 f11) hnn ⟨s0, s1, thr, ocnt, strat, ref, shape, warm, queue, cl, id, fb⟩ origin
end Go.Proofs.Ytpgjaaekpaeajaa
