/- The laws of the layer sketch: SketchAlone. -/
import Derived.Test.YtogdnacambjhpaaSkL
namespace Go.Proofs.Ytogdnacambjhpaa
open Go.RowKit
set_option linter.unusedVariables false
set_option linter.unusedSimpArgs false

def stepA (K : ByteArray) (st : Int × List NoteS) (d : DeedS) : Int × List NoteS := if addE st.1 d.at_ d.ns = 0 then (d.at_, st.2 ++ newNotes d.at_ K d.ns) else st
def runA (K : ByteArray) (ds : List DeedS) : Int × List NoteS := ds.foldl (stepA K) (0, [])
theorem runA_snoc {K : ByteArray} {ds : List DeedS} {k : Nat} {d : DeedS} (h : ds[k]? = some d) : runA K (ds.take (k + 1)) = stepA K (runA K (ds.take k)) d := by
  obtain ⟨hk, rfl⟩ := List.getElem?_eq_some_iff.1 h
  unfold runA
  rw [List.take_succ_eq_append_getElem hk, List.foldl_append]; rfl
theorem foldA_key {K : ByteArray} : ∀ (ds : List DeedS) (st : Int × List NoteS), (∀ y, y ∈ st.2 → y.key = K) → ∀ y, y ∈ (ds.foldl (stepA K) st).2 → y.key = K
  | [], _, h => h
  | d :: ds, st, h => by
    refine foldA_key ds (stepA K st d) (fun y hy => ?_)
    unfold stepA at hy
    split at hy
    · rcases List.mem_append.1 hy with hy | hy
      · exact h y hy
      · obtain ⟨n, _, rfl⟩ := List.mem_map.1 hy
        rfl
    · exact h y hy
theorem runA_key {K : ByteArray} (ds : List DeedS) : ∀ y, y ∈ (runA K ds).2 → y.key = K := foldA_key ds (0, []) (by simp)
theorem leastS_const {c : Int} (hc : c ≤ 4611686018427387904) : ∀ n : Nat, 1 ≤ n → leastS (fun _ => c) n = c
  | 1, _ => by rw [leastS, leastS]; omega
  | n + 2, _ => by rw [leastS, leastS_const hc (n + 1) (by omega)]; omega
theorem est_alone {h : ShapeS} {b at_ : Int} {K : ByteArray} {notes : List NoteS} (hR : 1 ≤ h.R) (hk : ∀ y, y ∈ notes → y.key = K) : estN h b at_ K notes = totN h b at_ notes := by
  unfold estN
  refine (leastS_congr (g := fun _ : Int => totN h b at_ notes) (fun r _ => ?_)).trans (leastS_const (capS_le _) _ (by omega))
  show capS _ = capS _
  congr 1
  refine sumP_congr (fun y hy => ?_)
  rw [hk y hy, decide_eq_true (rfl : colS h r K = colS h r K)]
theorem begin_shift {b W t B : Int} (hb : 0 < b) (hW : W = b * B) : beginS b (t + W) = beginS b t + W := by
  unfold beginS
  rw [hW, Int.add_mul_emod_self_left]
  omega
theorem tot_gone {h : ShapeS} {b last : Int} {notes : List NoteS} (hb : ShapeOk h b) (hn : ∀ y, y ∈ notes → y.at_ ≤ last) : totN h b (last + h.W) notes = 0 := by
  unfold totN
  rw [sumP_none (fun y hy => ?_), capS_zero]
  have h1 := beginS_mono (b := b) (by have := hb.b1; omega) (hn y hy)
  rw [begin_shift (by have := hb.b1; omega) hb.bW, decide_eq_false (by omega)]; rfl

set_option maxHeartbeats 800000 in
set_option maxRecDepth 100000 in
theorem skalone_walk (w : World) (h : ShapeS) (s0 : 0 ≤ h.seed) (s1 : h.seed ≤ 18446744073709551615) (a : Option Addr) (len cap : Nat) (ds : List DeedS) (hl : ds.length = len) (hm : len ≤ 140737488351232) (hd : DeedsAt w a ds) :
    Calls Try.prog 4 #[.agg h.c, .slice a len cap] w fun e w' => e = .returned (.bool true) ∧ Below w.heap.size w w' := by
  have HLV := Lib.hid (fun (w : World) => sklive_any w)
  have HD := Lib.hid hd
  have HL := Lib.hid hl
  have hbx : Below w.heap.size w (w.alloc (.cells h.c 24)) := (Below.refl _ _).alloc (Nat.le_refl _) _
  have hnew := new_blockS w (.cells h.c 24)
  have hzx : (w.alloc (.cells h.c 24)).heap.size = w.heap.size + 1 := by simp
  have HOK := Lib.hid (fun hE => newE_ok (h := h) hE s0 s1)
  clear hl hd
  unfold ShapeS.c at *
  go_enter Try.func4, Try.ntmps4
  go_wp2_with (fail)
  refine (HLV.out _).mono ?_
  rintro e w2 ⟨rfl, h2⟩
  have hb2 := hbx.trans (h2.mono (by omega))
  have hn2 := (h2.block w.heap.size (by omega)).trans hnew
  have hz2 := h2.size
  clear hnew hbx h2
  have c0 : w2.cell? ⟨w.heap.size, 0, none⟩ = some (.int .i64 h.W) := by simp only [World.cell?, hn2]; rfl
  have c1 : w2.cell? ⟨w.heap.size, 1, none⟩ = some (.int .i64 h.B) := by simp only [World.cell?, hn2]; rfl
  have c2 : w2.cell? ⟨w.heap.size, 2, none⟩ = some (.int .i64 h.R) := by simp only [World.cell?, hn2]; rfl
  have c3 : w2.cell? ⟨w.heap.size, 3, none⟩ = some (.int .i64 h.C) := by simp only [World.cell?, hn2]; rfl
  have c4 : w2.cell? ⟨w.heap.size, 4, none⟩ = some (.int .u64 h.seed) := by simp only [World.cell?, hn2]; rfl
  go_wp2_with (fail)
  refine (sknew_any h w2).mono ?_
  intro e wa hp
  by_cases hE : newE h = 0
  · obtain ⟨rfl, rfl⟩ := hp.2 hE
    have HB := Lib.hid (HOK.out hE)
    obtain ⟨b, hb⟩ : ∃ b, h.W / h.B = b := ⟨_, rfl⟩
    rw [hb] at HB
    have hk0 := skInv_made w2 HB.out
    have hal : Below w2.heap.size w2 (w2.alloc (skObj h)) := (Below.refl _ _).alloc (Nat.le_refl _) _
    have hb0 := hb2.trans (hal.mono (by omega))
    have hn0 := (hal.block w.heap.size (by omega)).trans hn2
    obtain ⟨s, hs⟩ : ∃ s, w2.heap.size = s := ⟨_, rfl⟩
    have hsw : w.heap.size < s := by omega
    rw [hs] at hk0
    simp only [hs]
    have HK0 := Lib.hid hk0
    have HB0 := Lib.hid hb0
    have HN0 := Lib.hid hn0
    clear hp hE hb hal hk0 hb0 hn0 hb2 hn2 c0 c1 c2 c3 c4 hs HOK
    generalize w2.alloc (skObj h) = w0 at *
    by_cases hlen : len = 0
    · have hz : ((len : Int) == 0) = true := by simp [hlen]
      clear hlen
      go_wp2_with (fail)
      go_ret
      exact ⟨rfl, HB0.out⟩
    · have hz : ((len : Int) == 0) = false := by rw [beq_eq_false_iff_ne]; omega
      obtain ⟨b0, off, ha, hbl, hc⟩ : ∃ b off, a = some ⟨b, off, none⟩ ∧ b < w.heap.size ∧ ∀ j d, ds[j]? = some d → DeedAt w b (off + j * 4) d := by
        rcases HD.out with h | h
        · exfalso; have := HL.out; rw [h] at this; simp at this; omega
        · exact h
      subst ha
      have HC := Lib.hid hc
      obtain ⟨f0, hf0⟩ : ∃ d, ds[0]? = some d := ⟨_, List.getElem?_eq_getElem (by rw [HL.out]; omega)⟩
      obtain ⟨a9, l9, c9, _, _, q2, _, _, _, _, q7⟩ := hc 0 f0 hf0
      rw [show off + 0 * 4 + 2 = off + 2 by omega] at q2
      obtain ⟨K, hK⟩ : ∃ K, f0.key = K := ⟨_, rfl⟩
      rw [hK] at q2 q7
      have l0 : (0 : Int) < (len : Int) := by omega
      have l0n : 0 < len := by omega
      have HQ2 := Lib.hid q2
      clear hlen hc hf0 q2
      go_wp2_with (fail)
      go_loopw [7] (fun i wr => ∃ (k : Nat) (v : Value) (bs : List BkS), k ≤ len ∧ i = .int .i64 k ∧ Hid (SkInv wr s h b (runA K (ds.take k)).1 (runA K (ds.take k)).2 v bs) ∧ Hid (∀ i, SkOwn s v bs i → w.heap.size < i) ∧ Hid (Below w.heap.size w wr) ∧ Hid (wr.heap[w.heap.size]? = w0.heap[w.heap.size]?)) (fun i _ => len - (intOf i).toNat)
      case atStart => exact ⟨0, .slice none 0 0, [], Nat.zero_le _, rfl, by rw [List.take_zero]; exact HK0, Lib.hid (fun i hi => by unfold SkOwn at hi; simp [Value.ownBlock] at hi; omega), HB0, Lib.hid rfl⟩
      case round =>
        rename World => wy
        obtain ⟨k, v, bs, hk, rfl, HK, HOW, HBY, HXY⟩ := hrel
        have e2 := (HBY.out.cell (p := ⟨b0, off + 2, none⟩) hbl).trans HQ2.out
        by_cases hlt : k < len
        · have hkl : k < ds.length := by rw [HL.out]; exact hlt
          have k0 : (0 : Int) ≤ k := by omega
          have k1 : (k : Int) < len := by omega
          obtain ⟨d, hd⟩ : ∃ d, ds[k]? = some d := ⟨_, List.getElem?_eq_getElem hkl⟩
          obtain ⟨a', l, c, d0, d1, d2, d3, e4, e5, e6, e7⟩ := HC.out k d hd
          have HD1 := Lib.hid d1
          have HD3 := Lib.hid d3
          have d1 := (HBY.out.cell (p := ⟨b0, off + k * 4 + 1, none⟩) hbl).trans d1
          have d3 := (HBY.out.cell (p := ⟨b0, off + k * 4 + 3, none⟩) hbl).trans d3
          have HRS := Lib.hid (runA_snoc (K := K) hd)
          have HI6 := Lib.hid e6
          have HADD := Lib.hid (skaddI_any (w := wy.drew) (HK.out.below (Below.refl _ _).drew) HB.out d.at_ K q7 a' l c d.ns e4 e5 (HI6.out.belowB HBY.out.drew) (fun hne g off hg => fun hs => by
            have h1 := HOW.out g hs
            rcases HI6.out with h | ⟨b', off', h2, h3, _⟩
            · exact hne h
            · rw [hg] at h2; injection h2 with h2; injection h2 with h2; omega))
          have HSTEP := Lib.hid (show runA K (ds.take (k + 1)) = ((if addE (runA K (ds.take k)).1 d.at_ d.ns = 0 then d.at_ else (runA K (ds.take k)).1), (if addE (runA K (ds.take k)).1 d.at_ d.ns = 0 then (runA K (ds.take k)).2 ++ newNotes d.at_ K d.ns else (runA K (ds.take k)).2)) by
            rw [HRS.out]
            unfold stepA
            by_cases hz : addE (runA K (ds.take k)).1 d.at_ d.ns = 0
            · rw [if_pos hz, if_pos hz, if_pos hz]
            · rw [if_neg hz, if_neg hz, if_neg hz])
          clear HRS e4 e5 e7 hd e6 d0 d2
          go_wp2_with (fail)
          refine wp_region_noPanic ?_
          refine wp_region_held_drew (S := fun wx => wx.cell? ⟨b0, off + k * 4 + 1, none⟩ = some (.int .i64 d.at_) ∧ wx.cell? ⟨b0, off + 2, none⟩ = some (.string K) ∧ wx.cell? ⟨b0, off + k * 4 + 3, none⟩ = some (.slice a' l c)) (by kernel_rfl) ?_ (fun hHeld => ?_)
          · exact ⟨d1, e2, d3⟩
          refine wpAnyH_take (i := 0) (v := ?_) rfl (by kernel_rfl) (by kernel_rfl) (by kernel_rfl) (fun _ _ _ h => h) (Or.inl ⟨by rfl, ?hy⟩) (by assumption) ?_
          case hy => intro w hSw; (try dsimp only at hSw); go_simp; try with_reducible rfl
          try simp only [Act.put, List.getElem_toArray, List.getElem_cons_succ, List.getElem_cons_zero, List.setIfInBounds_toArray, List.set_cons_zero, List.set_cons_succ]
          refine wpAnyH_take (i := 1) (v := ?_) rfl (by kernel_rfl) (by kernel_rfl) (by kernel_rfl) (fun _ _ _ h => h) (Or.inl ⟨by rfl, ?hy⟩) (by assumption) ?_
          case hy => intro w hSw; (try dsimp only at hSw); go_simp; try with_reducible rfl
          try simp only [Act.put, List.getElem_toArray, List.getElem_cons_succ, List.getElem_cons_zero, List.setIfInBounds_toArray, List.set_cons_zero, List.set_cons_succ]
          refine wpAnyH_take (i := 2) (v := ?_) rfl (by kernel_rfl) (by kernel_rfl) (by kernel_rfl) (fun _ _ _ h => h) (Or.inl ⟨by rfl, ?hy⟩) (by assumption) ?_
          case hy => intro w hSw; (try dsimp only at hSw); go_simp; try with_reducible rfl
          try simp only [Act.put, List.getElem_toArray, List.getElem_cons_succ, List.getElem_cons_zero, List.setIfInBounds_toArray, List.set_cons_zero, List.set_cons_succ]
          refine wpAnyH_take (i := 3) (v := ?_) rfl (by kernel_rfl) (by kernel_rfl) (by kernel_rfl) (fun _ _ _ h => h) (Or.inl ⟨by rfl, ?hy⟩) (by assumption) ?_
          case hy => intro w hSw; (try dsimp only at hSw); go_simp; try with_reducible rfl
          try simp only [Act.put, List.getElem_toArray, List.getElem_cons_succ, List.getElem_cons_zero, List.setIfInBounds_toArray, List.set_cons_zero, List.set_cons_succ]
          refine wpAnyH_take (i := 4) (v := ?_) rfl (by kernel_rfl) (by kernel_rfl) (by kernel_rfl) (fun _ _ _ h => h) (Or.inl ⟨by rfl, ?hy⟩) (by assumption) ?_
          case hy => intro w hSw; (try dsimp only at hSw); go_simp; try with_reducible rfl
          try simp only [Act.put, List.getElem_toArray, List.getElem_cons_succ, List.getElem_cons_zero, List.setIfInBounds_toArray, List.set_cons_zero, List.set_cons_succ]
          refine wpAnyH_take (i := 5) (v := ?_) rfl (by kernel_rfl) (by kernel_rfl) (by kernel_rfl) (fun _ _ _ h => h) (Or.inl ⟨by rfl, ?hy⟩) (by assumption) ?_
          case hy => intro w hSw; (try dsimp only at hSw); go_simp; try with_reducible rfl
          try simp only [Act.put, List.getElem_toArray, List.getElem_cons_succ, List.getElem_cons_zero, List.setIfInBounds_toArray, List.set_cons_zero, List.set_cons_succ]
          refine wpAnyH_take (i := 6) (v := ?_) rfl (by kernel_rfl) (by kernel_rfl) (by kernel_rfl) (fun _ _ _ h => h) (Or.inl ⟨by rfl, ?hy⟩) (by assumption) ?_
          case hy => intro w hSw; (try dsimp only at hSw); go_simp; try with_reducible rfl
          try simp only [Act.put, List.getElem_toArray, List.getElem_cons_succ, List.getElem_cons_zero, List.setIfInBounds_toArray, List.set_cons_zero, List.set_cons_succ]
          refine wpAnyH_take (i := 7) (v := ?_) rfl (by kernel_rfl) (by kernel_rfl) (by kernel_rfl) (fun _ _ _ h => h) (Or.inl ⟨by rfl, ?hy⟩) (by assumption) ?_
          case hy => intro w hSw; (try dsimp only at hSw); go_simp; try with_reducible rfl
          try simp only [Act.put, List.getElem_toArray, List.getElem_cons_succ, List.getElem_cons_zero, List.setIfInBounds_toArray, List.set_cons_zero, List.set_cons_succ]
          refine wpAnyH_take (i := 8) (v := ?_) rfl (by kernel_rfl) (by kernel_rfl) (by kernel_rfl) (fun _ _ _ h => h) (Or.inl ⟨by rfl, ?hy⟩) (by assumption) ?_
          case hy => intro w hSw; (try dsimp only at hSw); go_simp; try with_reducible rfl
          try simp only [Act.put, List.getElem_toArray, List.getElem_cons_succ, List.getElem_cons_zero, List.setIfInBounds_toArray, List.set_cons_zero, List.set_cons_succ]
          refine wpAnyH_take (i := 9) (v := ?_) rfl (by kernel_rfl) (by kernel_rfl) (by kernel_rfl) (fun _ _ _ h => h) (Or.inl ⟨by rfl, ?hy⟩) (by assumption) ?_
          case hy => intro w hSw; (try dsimp only at hSw); go_simp; try with_reducible rfl
          try simp only [Act.put, List.getElem_toArray, List.getElem_cons_succ, List.getElem_cons_zero, List.setIfInBounds_toArray, List.set_cons_zero, List.set_cons_succ]
          refine wpAnyH_take (i := 10) (v := ?_) rfl (by kernel_rfl) (by kernel_rfl) (by kernel_rfl) (fun _ _ _ h => h) (Or.inl ⟨by rfl, ?hy⟩) (by assumption) ?_
          case hy => intro w hSw; (try dsimp only at hSw); go_simp; try with_reducible rfl
          try simp only [Act.put, List.getElem_toArray, List.getElem_cons_succ, List.getElem_cons_zero, List.setIfInBounds_toArray, List.set_cons_zero, List.set_cons_succ]
          refine wpAnyH_take (i := 11) (v := ?_) rfl (by kernel_rfl) (by kernel_rfl) (by kernel_rfl) (fun _ _ _ h => h) (Or.inl ⟨by rfl, ?hy⟩) (by assumption) ?_
          case hy => intro w hSw; (try dsimp only at hSw); go_simp; try with_reducible rfl
          try simp only [Act.put, List.getElem_toArray, List.getElem_cons_succ, List.getElem_cons_zero, List.setIfInBounds_toArray, List.set_cons_zero, List.set_cons_succ]
          refine wpAnyH_take (i := 12) (v := ?_) rfl (by kernel_rfl) (by kernel_rfl) (by kernel_rfl) (fun _ _ _ h => h) (Or.inl ⟨by rfl, ?hy⟩) (by assumption) ?_
          case hy => intro w hSw; (try dsimp only at hSw); go_simp; try with_reducible rfl
          try simp only [Act.put, List.getElem_toArray, List.getElem_cons_succ, List.getElem_cons_zero, List.setIfInBounds_toArray, List.set_cons_zero, List.set_cons_succ]
          refine wpAnyH_take (i := 13) (v := ?_) rfl (by kernel_rfl) (by kernel_rfl) (by kernel_rfl) (fun _ _ _ h => h) (Or.inl ⟨by rfl, ?hy⟩) (by assumption) ?_
          case hy => intro w hSw; (try dsimp only at hSw); go_simp; try with_reducible rfl
          try simp only [Act.put, List.getElem_toArray, List.getElem_cons_succ, List.getElem_cons_zero, List.setIfInBounds_toArray, List.set_cons_zero, List.set_cons_succ]
          refine wpAnyH_take (i := 14) (v := ?_) rfl (by kernel_rfl) (by kernel_rfl) (by kernel_rfl) (fun _ _ _ h => h) (Or.inl ⟨by rfl, ?hy⟩) (by assumption) ?_
          case hy => intro w hSw; (try dsimp only at hSw); go_simp; try with_reducible rfl
          try simp only [Act.put, List.getElem_toArray, List.getElem_cons_succ, List.getElem_cons_zero, List.setIfInBounds_toArray, List.set_cons_zero, List.set_cons_succ]
          refine wpAnyH_ready (rs := [15]) (by kernel_rfl) (by simp) (AllReadyH.cons rfl (fun K hK => ?_) AllReadyH.nil)
          go_simp
          refine HADD.out.mono ?_
          rintro e wb ⟨rfl, v', bs', hk', hof, how⟩
          have hbl2 : Below w.heap.size w wb := (HBY.out.drew).trans (hof.below (B := w.heap.size) (show w.heap.size ≤ wy.drew.heap.size from HBY.out.size) (fun i hi hs => by have := HOW.out i hs; omega))
          have hbx2 : wb.heap[w.heap.size]? = w0.heap[w.heap.size]? := (hof.block w.heap.size (by have h3 : wy.heap[w.heap.size]? = _ := HXY.out.trans HN0.out; exact (Array.getElem?_eq_some_iff.1 h3).1) (fun hs => by have := HOW.out _ hs; omega)).trans HXY.out
          try (go_wp2_with fail)
          refine hK.out _ _ ?_ (fun hHeld => ?_)
          · exact ⟨(hbl2.cell (p := ⟨b0, off + k * 4 + 1, none⟩) hbl).trans HD1.out, (hbl2.cell (p := ⟨b0, off + 2, none⟩) hbl).trans HQ2.out, (hbl2.cell (p := ⟨b0, off + k * 4 + 3, none⟩) hbl).trans HD3.out⟩
          clear hK K
          try simp only [Act.put, List.getElem_toArray, List.getElem_cons_succ, List.getElem_cons_zero, List.setIfInBounds_toArray, List.set_cons_zero, List.set_cons_succ]
          refine wpAnyH_done (by kernel_rfl) ?_ _
          refine NoPanic.normal ?_
          go_wp2_with (fail)
          exact ⟨⟨k + 1, v', bs', by omega, by go_num, by rw [HSTEP.out]; exact Lib.hid hk', Lib.hid (fun i hi => by
            rcases how i hi with h1 | h1
            · exact HOW.out i h1
            · have h2 : wy.heap.size ≤ i := h1
              have h3 : wy.heap[w.heap.size]? = _ := HXY.out.trans HN0.out
              have := (Array.getElem?_eq_some_iff.1 h3).1
              omega), Lib.hid hbl2, Lib.hid hbx2⟩, by first | (simp [intOf]; done) | (simp [intOf]; omega)⟩
        · have k1 : ¬ (k : Int) < len := by omega
          have e1 : ds.take k = ds := List.take_of_length_le (by rw [HL.out]; omega)
          rw [e1] at HK
          clear e1
          have l00 := HK.out.at_.l0
          have l01 := HK.out.at_.l1
          have HKEY := Lib.hid (runA_key (K := K) ds)
          have hnn := HK.out.inv.nn
          have HGONE := Lib.hid (tot_gone (last := (runA K ds).1) HB.out (fun y hy => (hnn y hy).2.2))
          have HAL := Lib.hid (fun at_ => est_alone (h := h) (b := b) (at_ := at_) HB.out.R1 HKEY.out)
          generalize (runA K ds).1 = LA at *
          generalize (runA K ds).2 = notes at *
          have hw1 := HB.out.W1
          have hw2 := HB.out.W2
          obtain ⟨LT, hLT⟩ : ∃ LT, LA + h.W = LT := ⟨_, rfl⟩
          rw [hLT] at HGONE
          have hwr : IntKind.i64.wrap (LA + h.W) = LT := by rw [IntWalk.i64_in _ (by omega), hLT]
          have HLT := Lib.hid hLT
          have hnx : wy.heap[w.heap.size]? = some (.cells #[.int .i64 h.W, .int .i64 h.B, .int .i64 h.R, .int .i64 h.C, .int .u64 h.seed] 24) := HXY.out.trans HN0.out
          have HNX := Lib.hid hnx
          have HKD := Lib.hid (HK.out.below (Below.refl _ wy).drew)
          have HE1 := Lib.hid (skEstI_any HKD.out HB.out LA K q7)
          rw [look_last l00 l01, if_pos rfl, HAL.out LA] at HE1
          clear hnn hLT hnx
          go_wp2_with (fail)
          refine wp_region_held_drew (S := fun wx => wx.cell? ⟨b0, off + 2, none⟩ = some (.string K)) (by kernel_rfl) ?_ (fun hHeld => ?_)
          · exact e2
          refine wpAnyH_take (i := 0) (v := ?_) rfl (by kernel_rfl) (by kernel_rfl) (by kernel_rfl) (fun _ _ _ h => h) (Or.inl ⟨by rfl, ?hy⟩) (by assumption) ?_
          case hy => intro w hSw; (try dsimp only at hSw); go_simp; try with_reducible rfl
          try simp only [Act.put, List.getElem_toArray, List.getElem_cons_succ, List.getElem_cons_zero, List.setIfInBounds_toArray, List.set_cons_zero, List.set_cons_succ]
          refine wpAnyH_take (i := 1) (v := ?_) rfl (by kernel_rfl) (by kernel_rfl) (by kernel_rfl) (fun _ _ _ h => h) (Or.inl ⟨by rfl, ?hy⟩) (by assumption) ?_
          case hy => intro w hSw; (try dsimp only at hSw); go_simp; try with_reducible rfl
          try simp only [Act.put, List.getElem_toArray, List.getElem_cons_succ, List.getElem_cons_zero, List.setIfInBounds_toArray, List.set_cons_zero, List.set_cons_succ]
          refine wpAnyH_take (i := 3) (v := ?_) rfl (by kernel_rfl) (by kernel_rfl) (by kernel_rfl) (fun _ _ _ h => h) (Or.inl ⟨by rfl, ?hy⟩) (by assumption) ?_
          case hy => intro w hSw; (try dsimp only at hSw); go_simp; try with_reducible rfl
          try simp only [Act.put, List.getElem_toArray, List.getElem_cons_succ, List.getElem_cons_zero, List.setIfInBounds_toArray, List.set_cons_zero, List.set_cons_succ]
          refine wpAnyH_take (i := 4) (v := ?_) rfl (by kernel_rfl) (by kernel_rfl) (by kernel_rfl) (fun _ _ _ h => h) (Or.inl ⟨by rfl, ?hy⟩) (by assumption) ?_
          case hy => intro w hSw; (try dsimp only at hSw); go_simp; try with_reducible rfl
          try simp only [Act.put, List.getElem_toArray, List.getElem_cons_succ, List.getElem_cons_zero, List.setIfInBounds_toArray, List.set_cons_zero, List.set_cons_succ]
          refine wpAnyH_take (i := 5) (v := ?_) rfl (by kernel_rfl) (by kernel_rfl) (by kernel_rfl) (fun _ _ _ h => h) (Or.inl ⟨by rfl, ?hy⟩) (by assumption) ?_
          case hy => intro w hSw; (try dsimp only at hSw); go_simp; try with_reducible rfl
          try simp only [Act.put, List.getElem_toArray, List.getElem_cons_succ, List.getElem_cons_zero, List.setIfInBounds_toArray, List.set_cons_zero, List.set_cons_succ]
          refine wpAnyH_take (i := 6) (v := ?_) rfl (by kernel_rfl) (by kernel_rfl) (by kernel_rfl) (fun _ _ _ h => h) (Or.inl ⟨by rfl, ?hy⟩) (by assumption) ?_
          case hy => intro w hSw; (try dsimp only at hSw); go_simp; try with_reducible rfl
          try simp only [Act.put, List.getElem_toArray, List.getElem_cons_succ, List.getElem_cons_zero, List.setIfInBounds_toArray, List.set_cons_zero, List.set_cons_succ]
          refine wpAnyH_ready (rs := [2]) (by kernel_rfl) (by simp) (AllReadyH.cons rfl (fun K hK => ?_) AllReadyH.nil)
          go_simp
          refine (skLast_any HKD.out.at_).mono ?_
          rintro e wq ⟨rfl, hq⟩
          subst hq
          try (go_wp2_with fail)
          refine hK.out _ _ ?_ (fun hHeld => ?_)
          · exact hHeld
          clear hK K
          try simp only [Act.put, List.getElem_toArray, List.getElem_cons_succ, List.getElem_cons_zero, List.setIfInBounds_toArray, List.set_cons_zero, List.set_cons_succ]
          refine wpAnyH_ready (rs := [7]) (by kernel_rfl) (by simp) (AllReadyH.cons rfl (fun K hK => ?_) AllReadyH.nil)
          go_simp
          refine HE1.out.mono ?_
          rintro e wb ⟨rfl, hb⟩
          try (go_wp2_with fail)
          refine hK.out _ _ ?_ (fun hHeld => ?_)
          · exact (hb.cell (p := ⟨b0, off + 2, none⟩) (show b0 < wy.drew.heap.size from Nat.lt_of_lt_of_le hbl HBY.out.size)).trans hHeld
          clear hK K
          try simp only [Act.put, List.getElem_toArray, List.getElem_cons_succ, List.getElem_cons_zero, List.setIfInBounds_toArray, List.set_cons_zero, List.set_cons_succ]
          refine wpAnyH_take (i := 8) (v := ?_) rfl (by kernel_rfl) (by kernel_rfl) (by kernel_rfl) (fun _ _ _ h => h) (Or.inl ⟨by rfl, ?hy⟩) (by assumption) ?_
          case hy => intro w hSw; (try dsimp only at hSw); go_simp; try with_reducible rfl
          try simp only [Act.put, List.getElem_toArray, List.getElem_cons_succ, List.getElem_cons_zero, List.setIfInBounds_toArray, List.set_cons_zero, List.set_cons_succ]
          refine wpAnyH_take (i := 9) (v := ?_) rfl (by kernel_rfl) (by kernel_rfl) (by kernel_rfl) (fun _ _ _ h => h) (Or.inl ⟨by rfl, ?hy⟩) (by assumption) ?_
          case hy => intro w hSw; (try dsimp only at hSw); go_simp; try with_reducible rfl
          try simp only [Act.put, List.getElem_toArray, List.getElem_cons_succ, List.getElem_cons_zero, List.setIfInBounds_toArray, List.set_cons_zero, List.set_cons_succ]
          refine wpAnyH_take (i := 10) (v := ?_) rfl (by kernel_rfl) (by kernel_rfl) (by kernel_rfl) (fun _ _ _ h => h) (Or.inl ⟨by rfl, ?hy⟩) (by assumption) ?_
          case hy => intro w hSw; (try dsimp only at hSw); go_simp; try with_reducible rfl
          try simp only [Act.put, List.getElem_toArray, List.getElem_cons_succ, List.getElem_cons_zero, List.setIfInBounds_toArray, List.set_cons_zero, List.set_cons_succ]
          refine wpAnyH_take (i := 11) (v := ?_) rfl (by kernel_rfl) (by kernel_rfl) (by kernel_rfl) (fun _ _ _ h => h) (Or.inl ⟨by rfl, ?hy⟩) (by assumption) ?_
          case hy => intro w hSw; (try dsimp only at hSw); go_simp; try with_reducible rfl
          try simp only [Act.put, List.getElem_toArray, List.getElem_cons_succ, List.getElem_cons_zero, List.setIfInBounds_toArray, List.set_cons_zero, List.set_cons_succ]
          refine wpAnyH_take (i := 12) (v := ?_) rfl (by kernel_rfl) (by kernel_rfl) (by kernel_rfl) (fun _ _ _ h => h) (Or.inl ⟨by rfl, ?hy⟩) (by assumption) ?_
          case hy => intro w hSw; (try dsimp only at hSw); go_simp; try with_reducible rfl
          try simp only [Act.put, List.getElem_toArray, List.getElem_cons_succ, List.getElem_cons_zero, List.setIfInBounds_toArray, List.set_cons_zero, List.set_cons_succ]
          refine wpAnyH_done (by kernel_rfl) ?_ _
          have HKB := Lib.hid (HKD.out.below hb)
          have HBB := Lib.hid ((HBY.out.drew).trans (hb.mono (show w.heap.size ≤ wy.drew.heap.size from HBY.out.size)))
          have HXB := Lib.hid ((hb.block w.heap.size (by have := (Array.getElem?_eq_some_iff.1 HNX.out).1; exact this)).trans (show wy.drew.heap[w.heap.size]? = _ from HNX.out))
          have HQB := Lib.hid hHeld
          have HT := Lib.hid (fun (wx : World) (h : SkInv wx s _ b LA notes v bs) => skTotI_any h HB.out LA)
          simp only [look_last l00 l01, if_true] at HT
          have HE2 := Lib.hid (fun (wx : World) (h : SkInv wx s _ b LA notes v bs) => skEstI_any h HB.out LT K q7)
          rw [HAL.out LT, HGONE.out] at HE2
          clear hb HKD HE1 hHeld e2 HNX HXY HK HBY
          generalize totN _ b LA notes = TT at *
          go_wp2_with (fail)
          refine (skLast_any HKB.out.at_).mono ?_
          rintro e wq ⟨rfl, hq⟩
          subst hq
          go_wp2_with (fail)
          refine (HT.out _ HKB.out).mono ?_
          rintro e wc ⟨rfl, hc⟩
          have HKC := Lib.hid (HKB.out.below hc)
          have HBC := Lib.hid (HBB.out.trans (hc.mono HBB.out.size))
          have HXC := Lib.hid ((hc.block w.heap.size (Array.getElem?_eq_some_iff.1 HXB.out).1).trans HXB.out)
          have HQC := Lib.hid ((hc.cell (p := ⟨b0, off + 2, none⟩) (World.block_lt_of_cell? _ _ HQB.out)).trans HQB.out)
          have hx := HXC.out
          have c0 : wc.cell? ⟨w.heap.size, 0, none⟩ = some (.int .i64 h.W) := by simp only [World.cell?, hx]; rfl
          have HLS := Lib.hid (fun n => skLast_any (HKC.out.at_.drewN n))
          clear hc HT hx
          have e3 := HQC.out
          go_wp2_with (fail)
          go_quiet (first | (go_at_call 15; exact Calls.quiet_of_same (HLS.out _)))
          go_wp2_with (fail)
          have HKE := Lib.hid (show SkInv (wc.drewN nq) s _ b LA notes v bs from ⟨HKC.out.at_.drewN nq, HKC.out.inv⟩)
          have HBE := Lib.hid (show Below w.heap.size w (wc.drewN nq) from below_drewS HBC.out nq)
          generalize wc.drewN nq = we at *
          by_cases hbig : 1152921504606846976 < LT
          · have hlk : lookS LA LT = 2 := by unfold lookS; rw [if_pos (Or.inr hbig)]
            rw [hlk] at HE2
            refine (HE2.out _ HKE.out).mono ?_
            rintro e wf ⟨rfl, hf⟩
            have HBF := Lib.hid (HBE.out.trans (hf.mono HBE.out.size))
            clear hf
            go_wp2_with (fail)
            go_ret
            exact ⟨rfl, HBF.out⟩
          · have hlk : lookS LA LT = 0 := by unfold lookS; rw [if_neg (by have := HLT.out; omega), if_neg (by have := HLT.out; omega)]
            rw [hlk, if_pos rfl] at HE2
            refine (HE2.out _ HKE.out).mono ?_
            rintro e wf ⟨rfl, hf⟩
            have HBF := Lib.hid (HBE.out.trans (hf.mono HBE.out.size))
            clear hf
            go_wp2_with (fail)
            go_ret
            exact ⟨rfl, HBF.out⟩
  · obtain ⟨rfl, rfl⟩ := hp.1 hE
    have hne : (newE h != 0) = true := by simpa using hE
    have hne2 : (newE h == 0) = false := by simpa using hE
    clear hp hE HOK
    generalize newE h = E at *
    go_wp2_with (fail)
    go_ret
    exact ⟨rfl, hb2⟩

theorem skalone_law {w : World} (W : Int) (wW : (Lit.int .i64 W).wf = true) (B : Int) (wB : (Lit.int .i64 B).wf = true) (R : Int) (wR : (Lit.int .i64 R).wf = true) (C : Int) (wC : (Lit.int .i64 C).wf = true) (seed : Int) (ws : (Lit.int .u64 seed).wf = true)
    (a : Option Addr) (len cap : Nat) (V : Nat → Nat → Value) (hm : len ≤ 140737488351232) (hr : RecsAt w a 4 len V) (hB : len * 56 ≤ 140737488351232)
    (h0 : ∀ j, j < len → V j 0 = .int .i64 (intOf (V j 0)) ∧ (Lit.int .i64 (intOf (V j 0))).wf = true) (h1 : ∀ j, j < len → V j 1 = .int .i64 (intOf (V j 1)) ∧ (Lit.int .i64 (intOf (V j 1))).wf = true)
    (h2 : ∀ j, j < len → V j 2 = .string (strOf (V j 2)) ∧ (strOf (V j 2)).size ≤ maxLen)
    (h3 : ∀ j, j < len → ∃ (a : Option Addr) (l c : Nat) (ns : List Int), V j 3 = .slice a l c ∧ ns.length = l ∧ l ≤ 9223372036854775807 ∧ I64s ns ∧ IntsAt w a ns) :
    Calls Try.prog 4 #[.agg #[.int .i64 W, .int .i64 B, .int .i64 R, .int .i64 C, .int .u64 seed], .slice a len cap] w fun e w' => e = .returned (.bool true) ∧ Below w.heap.size w w' := by
  obtain ⟨ds, hl, hd⟩ := deeds_of hr h0 h1 h2 h3
  simp only [Lit.wf, IntKind.min, IntKind.max, IntKind.signed, IntKind.bits, Bool.and_eq_true, decide_eq_true_eq] at ws
  exact skalone_walk w ⟨W, B, R, C, seed⟩ (by simpa using ws.1) (by simpa using ws.2) a len cap ds hl hm hd
end Go.Proofs.Ytogdnacambjhpaa
