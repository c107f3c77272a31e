/- sketch: a sketch behind calls; its estimate. -/
import Derived.Test.YtogdnacambjhpaaSkK
namespace Go.Proofs.Ytogdnacambjhpaa
open Go.RowKit
set_option linter.unusedVariables false
set_option linter.unusedSimpArgs false

/-- The estimate, by the document. -/
def estN (h : ShapeS) (b at_ : Int) (key : ByteArray) (notes : List NoteS) : Int := leastS (fun r => capS (sumP (fun y => decide (beginS b at_ - h.W < beginS b y.at_) && decide (colS h r y.key = colS h r key)) notes)) h.R.toNat
def totN (h : ShapeS) (b at_ : Int) (notes : List NoteS) : Int := capS (sumP (fun y => decide (beginS b at_ - h.W < beginS b y.at_) && true) notes)
theorem SkInv.est {w : World} {s : Nat} {h : ShapeS} {b last : Int} {notes : List NoteS} {v : Value} {bs : List BkS} (k : SkInv w s h b last notes v bs) {at_ : Int} (hat : last ≤ at_) (key : ByteArray) : estS h b at_ key (bs.map BkS.a) = estN h b at_ key notes := by
  unfold estS estN
  exact leastS_congr (fun r hr => k.inv.row hat (by omega) (by omega) key)
theorem SkInv.tot {w : World} {s : Nat} {h : ShapeS} {b last : Int} {notes : List NoteS} {v : Value} {bs : List BkS} (k : SkInv w s h b last notes v bs) {at_ : Int} (hat : last ≤ at_) : totS h b at_ (bs.map BkS.a) = totN h b at_ notes := k.inv.total hat
theorem skEstI_any {w : World} {s : Nat} {h : ShapeS} {b last : Int} {notes : List NoteS} {v : Value} {bs : List BkS} (k : SkInv w s h b last notes v bs) (hb : ShapeOk h b) (at_ : Int) (key : ByteArray) (hk : key.size ≤ maxLen) :
    Calls Try.prog 13 #[.pointer (some ⟨s, 0, none⟩), .int .i64 at_, .string key] w fun e w' => e = .returned (.tuple #[.int .i64 (if lookS last at_ = 0 then estN h b at_ key notes else 0), .int .i64 (lookS last at_)]) ∧ Below w.heap.size w w' := by
  have := skEstimate_any k.at_ hb at_ key hk
  by_cases hE : lookS last at_ = 0
  · rw [if_pos hE, k.est (lookS_ok hE).2.2] at this
    rw [if_pos hE]; exact this
  · rw [if_neg hE] at this ⊢; exact this
theorem skTotI_any {w : World} {s : Nat} {h : ShapeS} {b last : Int} {notes : List NoteS} {v : Value} {bs : List BkS} (k : SkInv w s h b last notes v bs) (hb : ShapeOk h b) (at_ : Int) :
    Calls Try.prog 14 #[.pointer (some ⟨s, 0, none⟩), .int .i64 at_] w fun e w' => e = .returned (.tuple #[.int .i64 (if lookS last at_ = 0 then totN h b at_ notes else 0), .int .i64 (lookS last at_)]) ∧ Below w.heap.size w w' := by
  have := skTotal_any k.at_ hb at_
  by_cases hE : lookS last at_ = 0
  · rw [if_pos hE, k.tot (lookS_ok hE).2.2] at this
    rw [if_pos hE]; exact this
  · rw [if_neg hE] at this ⊢; exact this
theorem look_last {last : Int} (h0 : 0 ≤ last) (h1 : last ≤ 1152921504606846976) : lookS last last = 0 := by
  unfold lookS
  rw [if_neg (by omega), if_neg (by omega)]

structure RunPost (w : World) (h : ShapeS) (ds : List DeedS) (e : Ending) (w' : World) : Prop where
  bel : Below w.heap.size w w'
  no : newE h ≠ 0 → e = .returned (.tuple #[.pointer none, .int .i64 (newE h)])
  yes : newE h = 0 → ∃ s v bs, e = .returned (.tuple #[.pointer (some ⟨s, 0, none⟩), .int .i64 0]) ∧ SkInv w' s h (h.W / h.B) (runN ds).1 (runN ds).2 v bs ∧ ∀ i, SkOwn s v bs i → w.heap.size ≤ i
theorem RunPost.mkNo {w w' : World} {h : ShapeS} {ds : List DeedS} {e : Ending} {E : Int} (hE : newE h = E) (hn : E ≠ 0) (he : e = .returned (.tuple #[.pointer none, .int .i64 E])) (hb : Below w.heap.size w w') : RunPost w h ds e w' :=
  ⟨hb, fun _ => by rw [hE]; exact he, fun h0 => absurd (hE.symm.trans h0) hn⟩
theorem RunPost.mkYes {w w' : World} {h : ShapeS} {ds : List DeedS} {e : Ending} {s : Nat} {v : Value} {bs : List BkS} (hE : newE h = 0) (he : e = .returned (.tuple #[.pointer (some ⟨s, 0, none⟩), .int .i64 0])) (hb : Below w.heap.size w w') {b : Int} (hbb : h.W / h.B = b) (hk : SkInv w' s h b (runN ds).1 (runN ds).2 v bs) (ho : ∀ i, SkOwn s v bs i → w.heap.size ≤ i) : RunPost w h ds e w' :=
  ⟨hb, fun h0 => absurd hE h0, fun _ => ⟨s, v, bs, he, by rw [hbb]; exact hk, ho⟩⟩
theorem IntsAt.belowB {w w' : World} {a : Option Addr} {xs : List Int} (h : IntsAt w a xs) (hb : Below w.heap.size w w') : IntsAt w' a xs := h.belowS hb
set_option maxHeartbeats 6400000 in
set_option maxRecDepth 100000 in
theorem skrun_any (w : World) (h : ShapeS) (s0 : 0 ≤ h.seed) (s1 : h.seed ≤ 18446744073709551615) (a : Option Addr) (len cap : Nat) (ds : List DeedS) (hl : ds.length = len) (hm : len ≤ 140737488351232) (hd : DeedsAt w a ds) :
    Calls Try.prog 16 #[.agg h.c, .slice a len cap] w (RunPost w h ds) := by
  have HD := Lib.hid hd
  have HL := Lib.hid hl
  have hbx : Below w.heap.size w (w.alloc (.cells h.c 24)) := (Below.refl _ _).alloc (Nat.le_refl _) _
  have HBX := Lib.hid hbx
  have HN := Lib.hid (sknew_any h (w.alloc (.cells h.c 24)))
  have HOK := Lib.hid (fun hE => newE_ok (h := h) hE s0 s1)
  clear hd hl hbx
  unfold ShapeS.c at *
  by_cases hE : newE h = 0
  · have HE := Lib.hid hE
    have HB := Lib.hid (HOK.out hE)
    obtain ⟨b, hb⟩ : ∃ b, h.W / h.B = b := ⟨_, rfl⟩
    rw [hb] at HB
    have HBB := Lib.hid hb
    clear hE hb
    go_enter Try.func16, Try.ntmps16
    go_wp2_with (fail)
    refine HN.out.mono ?_
    intro e wa hp
    obtain ⟨rfl, rfl⟩ := hp.2 HE.out
    have hk0 := skInv_made (w.alloc (.cells #[.int .i64 h.W, .int .i64 h.B, .int .i64 h.R, .int .i64 h.C, .int .u64 h.seed] 24)) HB.out
    have hb0 := HBX.out.alloc (show w.heap.size ≤ _ by simp) (skObj h)
    have hsz : (w.alloc (.cells #[.int .i64 h.W, .int .i64 h.B, .int .i64 h.R, .int .i64 h.C, .int .u64 h.seed] 24)).heap.size = w.heap.size + 1 := by simp
    rw [hsz] at hk0
    clear hp HN HBX hsz
    generalize (w.alloc (.cells #[.int .i64 h.W, .int .i64 h.B, .int .i64 h.R, .int .i64 h.C, .int .u64 h.seed] 24)).alloc (skObj h) = w0 at *
    have HK0 := Lib.hid hk0
    have HB0 := Lib.hid hb0
    clear hk0 hb0
    go_wp2_with (fail)
    go_loopw [8] (fun i wr => ∃ (k : Nat) (v : Value) (bs : List BkS), k ≤ len ∧ i = .int .i64 k ∧ Hid (SkInv wr (w.heap.size + 1) h b (runN (ds.take k)).1 (runN (ds.take k)).2 v bs) ∧ Hid (∀ i, SkOwn (w.heap.size + 1) v bs i → w.heap.size ≤ i) ∧ Hid (Below w.heap.size w wr)) (fun i _ => len - (intOf i).toNat)
    case atStart => exact ⟨0, .slice none 0 0, [], Nat.zero_le _, rfl, by rw [List.take_zero]; exact HK0, Lib.hid (fun i hi => by unfold SkOwn at hi; simp [Value.ownBlock] at hi; omega), HB0⟩
    case round =>
      rename World => wy
      obtain ⟨k, v, bs, hk, rfl, HK, HOW, HBY⟩ := hrel
      by_cases hlt : k < len
      · have hkl : k < ds.length := by rw [HL.out]; exact hlt
        have k0 : (0 : Int) ≤ k := by omega
        have k1 : (k : Int) < len := by omega
        obtain ⟨d, hd⟩ : ∃ d, ds[k]? = some d := ⟨_, List.getElem?_eq_getElem hkl⟩
        obtain ⟨b0, off, ha, hbl, hc⟩ : ∃ b off, a = some ⟨b, off, none⟩ ∧ b < w.heap.size ∧ ∀ j d, ds[j]? = some d → DeedAt w b (off + j * 4) d := by
          rcases HD.out with h | h
          · rw [h] at hkl; simp at hkl
          · exact h
        subst ha
        obtain ⟨a', l, c, d0, d1, d2, d3, e4, e5, e6, e7⟩ := hc k d hd
        have HD1 := Lib.hid d1
        have HD2 := Lib.hid d2
        have HD3 := Lib.hid d3
        have d0 := (HBY.out.cell (p := ⟨b0, off + k * 4, none⟩) hbl).trans d0
        have d1 := (HBY.out.cell (p := ⟨b0, off + k * 4 + 1, none⟩) hbl).trans d1
        have d2 := (HBY.out.cell (p := ⟨b0, off + k * 4 + 2, none⟩) hbl).trans d2
        have d3 := (HBY.out.cell (p := ⟨b0, off + k * 4 + 3, none⟩) hbl).trans d3
        have HRS := Lib.hid (runN_snoc hd)
        have HI6 := Lib.hid e6
        clear hd hc e6
        by_cases hkind : d.kind = 0
        · have hkd : (d.kind == 0) = true := by simp [hkind]
          have HADD := Lib.hid (skaddI_any (w := wy.drew) (HK.out.below (Below.refl _ _).drew) HB.out d.at_ d.key e7 a' l c d.ns e4 e5 (HI6.out.belowB HBY.out.drew) (fun hne g off hg => fun hs => by
            have h1 := HOW.out g hs
            rcases HI6.out with h | ⟨b', off', h2, h3, _⟩
            · exact hne h
            · rw [hg] at h2; injection h2 with h2; injection h2 with h2; omega))
          have HSTEP := Lib.hid (show runN (ds.take (k + 1)) = ((if addE (runN (ds.take k)).1 d.at_ d.ns = 0 then d.at_ else (runN (ds.take k)).1), (if addE (runN (ds.take k)).1 d.at_ d.ns = 0 then (runN (ds.take k)).2 ++ newNotes d.at_ d.key d.ns else (runN (ds.take k)).2)) by
            rw [HRS.out]
            unfold stepN
            by_cases hz : addE (runN (ds.take k)).1 d.at_ d.ns = 0
            · rw [if_pos ⟨hkind, hz⟩, if_pos hz, if_pos hz]
            · rw [if_neg (fun e => hz e.2), if_neg hz, if_neg hz])
          clear hkind HRS e4 e5 e7
          go_wp2_with (fail)
          refine wp_region_noPanic ?_
          refine wp_region_held_drew (S := fun wx => wx.cell? ⟨b0, off + k * 4 + 1, none⟩ = some (.int .i64 d.at_) ∧ wx.cell? ⟨b0, off + k * 4 + 2, none⟩ = some (.string d.key) ∧ wx.cell? ⟨b0, off + k * 4 + 3, none⟩ = some (.slice a' l c)) (by kernel_rfl) ?_ (fun hHeld => ?_)
          · exact ⟨d1, d2, d3⟩
          refine wpAnyH_take (i := 0) (v := ?_) rfl (by kernel_rfl) (by kernel_rfl) (by kernel_rfl) (fun _ _ _ h => h) (Or.inl ⟨by rfl, ?hy⟩) (by assumption) ?_
          case hy => intro w hSw; (try dsimp only at hSw); go_simp; try with_reducible rfl
          try simp only [Act.put, List.getElem_toArray, List.getElem_cons_succ, List.getElem_cons_zero, List.setIfInBounds_toArray, List.set_cons_zero, List.set_cons_succ]
          refine wpAnyH_take (i := 1) (v := ?_) rfl (by kernel_rfl) (by kernel_rfl) (by kernel_rfl) (fun _ _ _ h => h) (Or.inl ⟨by rfl, ?hy⟩) (by assumption) ?_
          case hy => intro w hSw; (try dsimp only at hSw); go_simp; try with_reducible rfl
          try simp only [Act.put, List.getElem_toArray, List.getElem_cons_succ, List.getElem_cons_zero, List.setIfInBounds_toArray, List.set_cons_zero, List.set_cons_succ]
          refine wpAnyH_take (i := 2) (v := ?_) rfl (by kernel_rfl) (by kernel_rfl) (by kernel_rfl) (fun _ _ _ h => h) (Or.inl ⟨by rfl, ?hy⟩) (by assumption) ?_
          case hy => intro w hSw; (try dsimp only at hSw); go_simp; try with_reducible rfl
          try simp only [Act.put, List.getElem_toArray, List.getElem_cons_succ, List.getElem_cons_zero, List.setIfInBounds_toArray, List.set_cons_zero, List.set_cons_succ]
          refine wpAnyH_take (i := 3) (v := ?_) rfl (by kernel_rfl) (by kernel_rfl) (by kernel_rfl) (fun _ _ _ h => h) (Or.inl ⟨by rfl, ?hy⟩) (by assumption) ?_
          case hy => intro w hSw; (try dsimp only at hSw); go_simp; try with_reducible rfl
          try simp only [Act.put, List.getElem_toArray, List.getElem_cons_succ, List.getElem_cons_zero, List.setIfInBounds_toArray, List.set_cons_zero, List.set_cons_succ]
          refine wpAnyH_take (i := 4) (v := ?_) rfl (by kernel_rfl) (by kernel_rfl) (by kernel_rfl) (fun _ _ _ h => h) (Or.inl ⟨by rfl, ?hy⟩) (by assumption) ?_
          case hy => intro w hSw; (try dsimp only at hSw); go_simp; try with_reducible rfl
          try simp only [Act.put, List.getElem_toArray, List.getElem_cons_succ, List.getElem_cons_zero, List.setIfInBounds_toArray, List.set_cons_zero, List.set_cons_succ]
          refine wpAnyH_take (i := 5) (v := ?_) rfl (by kernel_rfl) (by kernel_rfl) (by kernel_rfl) (fun _ _ _ h => h) (Or.inl ⟨by rfl, ?hy⟩) (by assumption) ?_
          case hy => intro w hSw; (try dsimp only at hSw); go_simp; try with_reducible rfl
          try simp only [Act.put, List.getElem_toArray, List.getElem_cons_succ, List.getElem_cons_zero, List.setIfInBounds_toArray, List.set_cons_zero, List.set_cons_succ]
          refine wpAnyH_take (i := 6) (v := ?_) rfl (by kernel_rfl) (by kernel_rfl) (by kernel_rfl) (fun _ _ _ h => h) (Or.inl ⟨by rfl, ?hy⟩) (by assumption) ?_
          case hy => intro w hSw; (try dsimp only at hSw); go_simp; try with_reducible rfl
          try simp only [Act.put, List.getElem_toArray, List.getElem_cons_succ, List.getElem_cons_zero, List.setIfInBounds_toArray, List.set_cons_zero, List.set_cons_succ]
          refine wpAnyH_take (i := 7) (v := ?_) rfl (by kernel_rfl) (by kernel_rfl) (by kernel_rfl) (fun _ _ _ h => h) (Or.inl ⟨by rfl, ?hy⟩) (by assumption) ?_
          case hy => intro w hSw; (try dsimp only at hSw); go_simp; try with_reducible rfl
          try simp only [Act.put, List.getElem_toArray, List.getElem_cons_succ, List.getElem_cons_zero, List.setIfInBounds_toArray, List.set_cons_zero, List.set_cons_succ]
          refine wpAnyH_take (i := 8) (v := ?_) rfl (by kernel_rfl) (by kernel_rfl) (by kernel_rfl) (fun _ _ _ h => h) (Or.inl ⟨by rfl, ?hy⟩) (by assumption) ?_
          case hy => intro w hSw; (try dsimp only at hSw); go_simp; try with_reducible rfl
          try simp only [Act.put, List.getElem_toArray, List.getElem_cons_succ, List.getElem_cons_zero, List.setIfInBounds_toArray, List.set_cons_zero, List.set_cons_succ]
          refine wpAnyH_take (i := 9) (v := ?_) rfl (by kernel_rfl) (by kernel_rfl) (by kernel_rfl) (fun _ _ _ h => h) (Or.inl ⟨by rfl, ?hy⟩) (by assumption) ?_
          case hy => intro w hSw; (try dsimp only at hSw); go_simp; try with_reducible rfl
          try simp only [Act.put, List.getElem_toArray, List.getElem_cons_succ, List.getElem_cons_zero, List.setIfInBounds_toArray, List.set_cons_zero, List.set_cons_succ]
          refine wpAnyH_take (i := 10) (v := ?_) rfl (by kernel_rfl) (by kernel_rfl) (by kernel_rfl) (fun _ _ _ h => h) (Or.inl ⟨by rfl, ?hy⟩) (by assumption) ?_
          case hy => intro w hSw; (try dsimp only at hSw); go_simp; try with_reducible rfl
          try simp only [Act.put, List.getElem_toArray, List.getElem_cons_succ, List.getElem_cons_zero, List.setIfInBounds_toArray, List.set_cons_zero, List.set_cons_succ]
          refine wpAnyH_take (i := 11) (v := ?_) rfl (by kernel_rfl) (by kernel_rfl) (by kernel_rfl) (fun _ _ _ h => h) (Or.inl ⟨by rfl, ?hy⟩) (by assumption) ?_
          case hy => intro w hSw; (try dsimp only at hSw); go_simp; try with_reducible rfl
          try simp only [Act.put, List.getElem_toArray, List.getElem_cons_succ, List.getElem_cons_zero, List.setIfInBounds_toArray, List.set_cons_zero, List.set_cons_succ]
          refine wpAnyH_take (i := 12) (v := ?_) rfl (by kernel_rfl) (by kernel_rfl) (by kernel_rfl) (fun _ _ _ h => h) (Or.inl ⟨by rfl, ?hy⟩) (by assumption) ?_
          case hy => intro w hSw; (try dsimp only at hSw); go_simp; try with_reducible rfl
          try simp only [Act.put, List.getElem_toArray, List.getElem_cons_succ, List.getElem_cons_zero, List.setIfInBounds_toArray, List.set_cons_zero, List.set_cons_succ]
          refine wpAnyH_take (i := 13) (v := ?_) rfl (by kernel_rfl) (by kernel_rfl) (by kernel_rfl) (fun _ _ _ h => h) (Or.inl ⟨by rfl, ?hy⟩) (by assumption) ?_
          case hy => intro w hSw; (try dsimp only at hSw); go_simp; try with_reducible rfl
          try simp only [Act.put, List.getElem_toArray, List.getElem_cons_succ, List.getElem_cons_zero, List.setIfInBounds_toArray, List.set_cons_zero, List.set_cons_succ]
          refine wpAnyH_take (i := 14) (v := ?_) rfl (by kernel_rfl) (by kernel_rfl) (by kernel_rfl) (fun _ _ _ h => h) (Or.inl ⟨by rfl, ?hy⟩) (by assumption) ?_
          case hy => intro w hSw; (try dsimp only at hSw); go_simp; try with_reducible rfl
          try simp only [Act.put, List.getElem_toArray, List.getElem_cons_succ, List.getElem_cons_zero, List.setIfInBounds_toArray, List.set_cons_zero, List.set_cons_succ]
          refine wpAnyH_take (i := 15) (v := ?_) rfl (by kernel_rfl) (by kernel_rfl) (by kernel_rfl) (fun _ _ _ h => h) (Or.inl ⟨by rfl, ?hy⟩) (by assumption) ?_
          case hy => intro w hSw; (try dsimp only at hSw); go_simp; try with_reducible rfl
          try simp only [Act.put, List.getElem_toArray, List.getElem_cons_succ, List.getElem_cons_zero, List.setIfInBounds_toArray, List.set_cons_zero, List.set_cons_succ]
          refine wpAnyH_ready (rs := [16]) (by kernel_rfl) (by simp) (AllReadyH.cons rfl (fun K hK => ?_) AllReadyH.nil)
          go_simp
          refine HADD.out.mono ?_
          rintro e wb ⟨rfl, v', bs', hk', hof, how⟩
          have hbl2 : Below w.heap.size w wb := (HBY.out.drew).trans (hof.below (B := w.heap.size) (show w.heap.size ≤ wy.drew.heap.size from HBY.out.size) (fun i hi hs => by have := HOW.out i hs; omega))
          try (go_wp2_with fail)
          refine hK.out _ _ ?_ (fun hHeld => ?_)
          · exact ⟨(hbl2.cell (p := ⟨b0, off + k * 4 + 1, none⟩) hbl).trans HD1.out, (hbl2.cell (p := ⟨b0, off + k * 4 + 2, none⟩) hbl).trans HD2.out, (hbl2.cell (p := ⟨b0, off + k * 4 + 3, none⟩) hbl).trans HD3.out⟩
          clear hK K
          try simp only [Act.put, List.getElem_toArray, List.getElem_cons_succ, List.getElem_cons_zero, List.setIfInBounds_toArray, List.set_cons_zero, List.set_cons_succ]
          refine wpAnyH_done (by kernel_rfl) ?_ _
          refine NoPanic.normal ?_
          go_wp2_with (fail)
          exact ⟨⟨k + 1, v', bs', by omega, by go_num, by rw [HSTEP.out]; exact Lib.hid hk', Lib.hid (fun i hi => by
            rcases how i hi with h1 | h1
            · exact HOW.out i h1
            · exact Nat.le_trans HBY.out.size h1), Lib.hid hbl2⟩, by first | (simp [intOf]; done) | (simp [intOf]; omega)⟩
        · have hkd : (d.kind == 0) = false := by simp [hkind]
          have HSTEP := Lib.hid (show runN (ds.take (k + 1)) = runN (ds.take k) by
            rw [HRS.out]
            unfold stepN
            rw [if_neg (fun e => hkind e.1)])
          clear hkind HRS e4 e5 e7
          go_wp2_with (fail)
          exact ⟨⟨k + 1, v, bs, by omega, by go_num, by rw [HSTEP.out]; exact HK, HOW, HBY⟩, by first | (simp [intOf]; done) | (simp [intOf]; omega)⟩
      · have k1 : ¬ (k : Int) < len := by omega
        have e1 : ds.take k = ds := List.take_of_length_le (by rw [HL.out]; omega)
        rw [e1] at HK
        clear e1
        go_wp2_with (fail)
        go_ret2
        exact RunPost.mkYes HE.out rfl HBY.out HBB.out HK.out HOW.out
  · have HE := Lib.hid hE
    go_enter Try.func16, Try.ntmps16
    go_wp2_with (fail)
    refine HN.out.mono ?_
    intro e wa hp
    obtain ⟨rfl, rfl⟩ := hp.1 HE.out
    have hne : (newE h == 0) = false := by simpa using hE
    obtain ⟨E, hEE⟩ : ∃ E, newE h = E := ⟨_, rfl⟩
    have HEE := Lib.hid hEE
    rw [hEE] at hne HE
    simp only [hEE]
    clear hEE
    clear HN hp HOK hE
    go_wp2_with (fail)
    by_cases h0 : len = 0
    · have h0' : ¬ (0 : Int) < len := by omega
      go_loopw [8] (fun i wr => i = .int .i64 0 ∧ Hid (Below w.heap.size w wr)) (fun i _ => 0)
      case atStart => exact ⟨rfl, HBX⟩
      case round =>
        rename World => wy
        obtain ⟨rfl, HBY⟩ := hrel
        go_wp2_with (fail)
        go_ret2
        exact RunPost.mkNo HEE.out HE.out rfl HBY.out
    · have h0' : (0 : Int) < len := by omega
      go_loopw [8] (fun i wr => i = .int .i64 0 ∧ Hid (Below w.heap.size w wr)) (fun i _ => 0)
      case atStart => exact ⟨rfl, HBX⟩
      case round =>
        rename World => wy
        obtain ⟨rfl, HBY⟩ := hrel
        go_wp2_with (fail)
        go_ret2
        exact RunPost.mkNo HEE.out HE.out rfl HBY.out
end Go.Proofs.Ytogdnacambjhpaa
