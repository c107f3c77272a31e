/- The laws of the layer sketch: SketchNever. -/
import Derived.Test.YtogdnacambjhpaaSkN
namespace Go.Proofs.Ytogdnacambjhpaa
open Go.RowKit
set_option linter.unusedVariables false
set_option linter.unusedSimpArgs false

/-- What stands between two rounds. -/
structure NevI (w : World) (s : Nat) (h : ShapeS) (b : Int) (LA : Int) (xs : List DoneS) (v : Value) (bs : List BkS) (vD : Value) (wr : World) : Prop where
  inv : SkInv wr s h b LA (notesOf xs) v bs
  own : ∀ i, SkOwn s v bs i → w.heap.size < i
  row : wr.ownsRow (w.heap.size + 1) 33 4 vD xs.length (flatD xs)
  apart : ∀ g, vD.ownBlock = some g → ¬ SkOwn s v bs g
  done : ∀ x, x ∈ xs → DoneOk w x
  below : Below w.heap.size w wr
  box : wr.cell? ⟨w.heap.size, 1, none⟩ = some (.int .i64 h.B)
theorem NevI.belowN {w wr wr' : World} {s : Nat} {h : ShapeS} {b LA : Int} {xs : List DoneS} {v vD : Value} {bs : List BkS} (k : NevI w s h b LA xs v bs vD wr) (hb : Below wr.heap.size wr wr') : NevI w s h b LA xs v bs vD wr' :=
  ⟨k.inv.below hb, k.own, k.row.kept (row := none) ⟨hb.os, hb.tape, hb.output, hb.size, fun i hi _ => hb.block i hi⟩ (by cases hv : vD.ownBlock <;> simp), k.apart, k.done, k.below.trans (hb.mono k.below.size), (hb.cell (p := ⟨w.heap.size, 1, none⟩) (World.block_lt_of_cell? _ _ k.box)).trans k.box⟩

theorem toList_decN (a b : ByteArray) : (a.toList == b.toList) = decide (a = b) := by
  by_cases h : a = b
  · simp [h]
  · have : a.toList ≠ b.toList := fun e => h (by
      rw [ByteArray.toList_eq, ByteArray.toList_eq] at e
      rcases a with ⟨⟨l⟩⟩; rcases b with ⟨⟨l'⟩⟩; simpa using e)
    simp [h, this]
theorem SkInv.keptN {w w' : World} {s : Nat} {h : ShapeS} {b last : Int} {notes : List NoteS} {v : Value} {bs : List BkS} (k : SkInv w s h b last notes v bs) (hk : ∀ i, SkOwn s v bs i → w'.heap[i]? = w.heap[i]?) : SkInv w' s h b last notes v bs := ⟨k.at_.kept hk, k.inv⟩
theorem ownsRow_same {w w' : World} {base size n : Nat} {e : TypeId} {v : Value} {xs : List Value} (h : w.ownsRow base e size v n xs) (hk : ∀ g, v.ownBlock = some g → w'.heap[g]? = w.heap[g]?) : w'.ownsRow base e size v n xs := by
  obtain ⟨h1, h2⟩ := h
  refine ⟨h1, ?_⟩
  rcases h2 with h2 | ⟨g, cap, cur, rfl, hb, hg, hrest⟩
  · exact Or.inl h2
  · exact Or.inr ⟨g, cap, cur, rfl, hb, (hk g rfl).trans hg, hrest⟩
/-- Behind an Add that changes nothing of what was done. -/
theorem NevI.added {w wr wb : World} {s : Nat} {h : ShapeS} {b LA LA' : Int} {xs : List DoneS} {notes : List NoteS} {v v' vD : Value} {bs bs' : List BkS} (k : NevI w s h b LA xs v bs vD wr) (hi : SkInv wb s h b LA' notes v' bs') (ho : Off (SkOwn s v bs) wr wb) (how : ∀ i, SkOwn s v' bs' i → SkOwn s v bs i ∨ wr.heap.size ≤ i) :
    (∀ i, SkOwn s v' bs' i → w.heap.size < i) ∧ wb.ownsRow (w.heap.size + 1) 33 4 vD xs.length (flatD xs) ∧ (∀ g, vD.ownBlock = some g → ¬ SkOwn s v' bs' g ∧ g < wr.heap.size) ∧ Below w.heap.size w wb ∧ wb.cell? ⟨w.heap.size, 1, none⟩ = some (.int .i64 h.B) := by
  have hbl := World.block_lt_of_cell? _ _ k.box
  have hg : ∀ g, vD.ownBlock = some g → g < wr.heap.size := fun g e => (k.row.lt g e).2
  refine ⟨fun i hi => ?_, ownsRow_same k.row (fun g e => ho.block g (hg g e) (k.apart g e)), fun g e => ⟨fun hs => ?_, hg g e⟩, k.below.trans (ho.below (B := w.heap.size) k.below.size (fun i hi hs => by have := k.own i hs; omega)), ho.cell k.box (fun hs => by have := k.own _ hs; dsimp only at this; omega)⟩
  · rcases how i hi with h1 | h1
    · exact k.own i h1
    · have : w.heap.size < wr.heap.size := hbl
      omega
  · rcases how g hs with h1 | h1
    · exact k.apart g e h1
    · have := hg g e; omega
/-- .. and the deed put behind the others. -/
theorem nev_push {w wb w9 : World} {s : Nat} {h : ShapeS} {b LA : Int} {xs : List DoneS} {X : DoneS} {v vD v3 : Value} {bs : List BkS} (hi : SkInv wb s h b LA (notesOf xs ++ newNotes X.d.at_ X.d.key X.d.ns) v bs) (how : ∀ i, SkOwn s v bs i → w.heap.size < i)
    (hg : wb.grownBy w9 vD.ownBlock) (hr : w9.ownsRow (w.heap.size + 1) 33 4 v3 (xs.length + 1) (flatD xs ++ X.vals)) (hv3 : v3.ownBlock = vD.ownBlock ∨ v3.ownBlock = some wb.heap.size) (hap : ∀ g, vD.ownBlock = some g → ¬ SkOwn s v bs g ∧ w.heap.size < g)
    (hd : ∀ x, x ∈ xs → DoneOk w x) (hX : DoneOk w X) (hb : Below w.heap.size w wb) (hbx : wb.cell? ⟨w.heap.size, 1, none⟩ = some (.int .i64 h.B)) :
    NevI w s h b LA (xs ++ [X]) v bs v3 w9 := by
  have hbl := World.block_lt_of_cell? _ _ hbx
  refine ⟨?_, how, ?_, fun g e hs => ?_, fun x hx => ?_, ?_, ?_⟩
  · rw [notesOf_snoc]
    exact hi.keptN (fun i hi2 => hg.block i (hi.at_.lt hi2) (fun e => (hap i e.symm).1 hi2))
  · rw [List.length_append, List.length_singleton, show flatD (xs ++ [X]) = flatD xs ++ X.vals by simp [flatD]]; exact hr
  · rcases hv3 with h1 | h1
    · exact (hap g (h1.symm.trans e)).1 hs
    · rw [h1] at e; injection e with e
      have := hi.at_.lt hs; omega
  · rcases List.mem_append.1 hx with hx | hx
    · exact hd x hx
    · obtain rfl := List.mem_singleton.1 hx
      exact hX
  · exact ⟨hg.os.trans hb.os, hg.tape.trans hb.tape, hg.output.trans hb.output, Nat.le_trans hb.size hg.size, fun i hi2 => (hg.block i (by have := hb.size; omega) (fun e => by have := (hap i e.symm).2; omega)).trans (hb.block i hi2)⟩
  · exact hg.cell hbx (fun e => by have := (hap _ e.symm).2; dsimp only at this; omega)

set_option maxHeartbeats 3200000 in
set_option maxRecDepth 100000 in
theorem sknever_walk (w : World) (h : ShapeS) (s0 : 0 ≤ h.seed) (s1 : h.seed ≤ 18446744073709551615) (a : Option Addr) (len cap : Nat) (ds : List DeedS) (hl : ds.length = len) (hm : len * 56 ≤ 140737488351232) (hd : DeedsAt w a ds) :
    Calls Try.prog 3 #[.agg h.c, .slice a len cap] w fun e w' => e = .returned (.bool true) ∧ Below w.heap.size w w' := by
  have HLV := Lib.hid (fun (w : World) => sklive_any w)
  have HD := Lib.hid hd
  have HL := Lib.hid hl
  have hbx : Below w.heap.size w (w.alloc (.cells h.c 24)) := (Below.refl _ _).alloc (Nat.le_refl _) _
  have hnew := new_blockS w (.cells h.c 24)
  have hzx : (w.alloc (.cells h.c 24)).heap.size = w.heap.size + 1 := by simp
  have HOK := Lib.hid (fun hE => newE_ok (h := h) hE s0 s1)
  clear hl hd
  unfold ShapeS.c at *
  go_enter Try.func3, Try.ntmps3
  go_wp2_with (fail)
  refine (HLV.out _).mono ?_
  rintro e w2 ⟨rfl, h2⟩
  have hb2 := hbx.trans (h2.mono (by omega))
  have hn2 := (h2.block w.heap.size (by omega)).trans hnew
  have hz2 := h2.size
  clear hnew hbx h2
  have c0 : w2.cell? ⟨w.heap.size, 0, none⟩ = some (.int .i64 h.W) := by simp only [World.cell?, hn2]; rfl
  have c1 : w2.cell? ⟨w.heap.size, 1, none⟩ = some (.int .i64 h.B) := by simp only [World.cell?, hn2]; rfl
  have c2 : w2.cell? ⟨w.heap.size, 2, none⟩ = some (.int .i64 h.R) := by simp only [World.cell?, hn2]; rfl
  have c3 : w2.cell? ⟨w.heap.size, 3, none⟩ = some (.int .i64 h.C) := by simp only [World.cell?, hn2]; rfl
  have c4 : w2.cell? ⟨w.heap.size, 4, none⟩ = some (.int .u64 h.seed) := by simp only [World.cell?, hn2]; rfl
  go_wp2_with (fail)
  refine (sknew_any h w2).mono ?_
  intro e wa hp
  by_cases hE : newE h = 0
  · obtain ⟨rfl, rfl⟩ := hp.2 hE
    have HB := Lib.hid (HOK.out hE)
    have hdiv := HB.out.div
    obtain ⟨b, hb⟩ : ∃ b, h.W / h.B = b := ⟨_, rfl⟩
    rw [hb] at HB hdiv
    have hk0 := skInv_made w2 HB.out
    have hal : Below w2.heap.size w2 (w2.alloc (skObj h)) := (Below.refl _ _).alloc (Nat.le_refl _) _
    have hb0 := hb2.trans (hal.mono (by omega))
    have hn0 := (hal.block w.heap.size (by omega)).trans hn2
    obtain ⟨s, hs⟩ : ∃ s, w2.heap.size = s := ⟨_, rfl⟩
    have hsw : w.heap.size < s := by omega
    rw [hs] at hk0
    simp only [hs]
    have c0 : (w2.alloc (skObj h)).cell? ⟨w.heap.size, 0, none⟩ = some (.int .i64 h.W) := by simp only [World.cell?, hn0]; rfl
    have c1 : (w2.alloc (skObj h)).cell? ⟨w.heap.size, 1, none⟩ = some (.int .i64 h.B) := by simp only [World.cell?, hn0]; rfl
    have HK0 := Lib.hid hk0
    have HB0 := Lib.hid hb0
    have hB1 := HB.out.B1
    have hB2 := HB.out.B2
    have hW1 := HB.out.W1
    have hW2 := HB.out.W2
    have hbb1 := HB.out.b1
    have hbb2 := HB.out.bW'
    have hne : (h.B == 0) = false := by rw [beq_eq_false_iff_ne]; omega
    have hneb : (b == 0) = false := by rw [beq_eq_false_iff_ne]; omega
    clear hp hE hb hal hk0 hb0 hn0 hb2 hn2 c2 c3 c4 hs HOK
    generalize w2.alloc (skObj h) = w0 at *
    have HN0 := Lib.hid (show NevI w s h b 0 [] (.slice none 0 0) [] (.slice none 0 0) w0 from ⟨HK0.out, fun i hi => by unfold SkOwn at hi; simp [Value.ownBlock] at hi; omega, World.ownsRow_nil _ _ _ _, by simp [Value.ownBlock], by simp, HB0.out, c1⟩)
    clear HK0 HB0
    go_wp2_with (fail)
    go_loopw [8, 9, 10, 11, 12, 13, 14, 15, 16, 17] (fun x8 x9 _ _ _ _ _ _ _ _ wr => ∃ (i : Nat) (LA : Int) (xs : List DoneS) (v : Value) (bs : List BkS) (aD : Option Addr) (cD : Nat), i ≤ len ∧ x9 = .int .i64 i ∧ x8 = .slice aD xs.length cD ∧ xs.length ≤ i ∧ Hid (NevI w s h b LA xs v bs (.slice aD xs.length cD) wr)) (fun _ x9 _ _ _ _ _ _ _ _ _ => len - (intOf x9).toNat)
    case atStart => exact ⟨0, 0, [], .slice none 0 0, [], none, 0, Nat.zero_le _, rfl, rfl, Nat.zero_le _, HN0⟩
    case round =>
      rename World => wy
      obtain ⟨i, LA, xs, v, bs, aD, cD, hi, rfl, rfl, hxi, HNI⟩ := hrel
      by_cases hlt : i < len
      · have hil : i < ds.length := by rw [HL.out]; exact hlt
        have k0 : (0 : Int) ≤ i := by omega
        have k1 : (i : Int) < len := by omega
        obtain ⟨d, hd⟩ : ∃ d, ds[i]? = some d := ⟨_, List.getElem?_eq_getElem hil⟩
        obtain ⟨b0, off, ha, hbl, hc⟩ : ∃ b off, a = some ⟨b, off, none⟩ ∧ b < w.heap.size ∧ ∀ j d, ds[j]? = some d → DeedAt w b (off + j * 4) d := by
          rcases HD.out with h | h
          · rw [h] at hil; simp at hil
          · exact h
        subst ha
        obtain ⟨a', l, c, d0, d1, d2, d3, e4, e5, e6, e7⟩ := hc i d hd
        have d0 := (HNI.out.below.cell (p := ⟨b0, off + i * 4, none⟩) hbl).trans d0
        have d1 := (HNI.out.below.cell (p := ⟨b0, off + i * 4 + 1, none⟩) hbl).trans d1
        have d2 := (HNI.out.below.cell (p := ⟨b0, off + i * 4 + 2, none⟩) hbl).trans d2
        have d3 := (HNI.out.below.cell (p := ⟨b0, off + i * 4 + 3, none⟩) hbl).trans d3
        have HI6 := Lib.hid e6
        have HI4 := Lib.hid e4
        have hsz := HNI.out.below.size
        have hal : Below wy.heap.size wy (wy.alloc (.cells #[.int .i64 d.kind, .int .i64 d.at_, .string d.key, .slice a' l c] 33)) := (Below.refl _ _).alloc (Nat.le_refl _) _
        have HNA := Lib.hid (HNI.out.belowN hal)
        have hbx := new_blockS wy (.cells #[.int .i64 d.kind, .int .i64 d.at_, .string d.key, .slice a' l c] 33)
        have hzA : (wy.alloc (.cells #[.int .i64 d.kind, .int .i64 d.at_, .string d.key, .slice a' l c] 33)).heap.size = wy.heap.size + 1 := by simp
        clear hd hc e6 e4
        by_cases hkind : d.kind = 0
        · have hkd : (d.kind != 0) = false := by simp [hkind]
          have HADD := Lib.hid (skaddI_any HNA.out.inv HB.out d.at_ d.key e7 a' l c d.ns HI4.out e5 (HI6.out.belowB HNA.out.below) (fun hne g off hg => fun hs => by
            have h1 := HNA.out.own g hs
            rcases HI6.out with h | ⟨b', off', h2, h3, _⟩
            · exact hne h
            · rw [hg] at h2; injection h2 with h2; injection h2 with h2; omega))
          clear hkind
          go_wp2_with (fail)
          refine HADD.out.mono ?_
          rintro e wb ⟨rfl, v', bs', hk', hof, how⟩
          have hbxB : wb.heap[wy.heap.size]? = some (.cells #[.int .i64 d.kind, .int .i64 d.at_, .string d.key, .slice a' l c] 33) := (hof.block wy.heap.size (by omega) (fun hs => by have := HNI.out.inv.at_.lt hs; omega)).trans hbx
          obtain ⟨p1, p2, p3, p4, p5⟩ := HNA.out.added hk' hof how
          have hgw : ∀ g, (Value.slice aD xs.length cD).ownBlock = some g → w.heap.size < g ∧ g < wy.heap.size := fun g e => ⟨by have := (HNI.out.row.lt g e).1; omega, (HNI.out.row.lt g e).2⟩
          by_cases hE : addE LA d.at_ d.ns = 0
          · rw [if_pos hE, if_pos hE] at hk'
            obtain ⟨q1, q2, q3⟩ := lookS_ok (addE_zero hE).1
            have HX := Lib.hid (show DoneOk w ⟨d, a', l, c⟩ from ⟨HI4.out, e5, HI6.out, any_nonneg (addE_zero hE).2, q1, q2⟩)
            have hE0 : (addE LA d.at_ d.ns != 0) = false := by simp [hE]
            have g1 : wb.cell? ⟨wy.heap.size, 0, none⟩ = some (.int .i64 d.kind) := by simp only [World.cell?, hbxB]; rfl
            have g2 : wb.cell? ⟨wy.heap.size, 1, none⟩ = some (.int .i64 d.at_) := by simp only [World.cell?, hbxB]; rfl
            have g3 : wb.cell? ⟨wy.heap.size, 2, none⟩ = some (.string d.key) := by simp only [World.cell?, hbxB]; rfl
            have g4 : wb.cell? ⟨wy.heap.size, 3, none⟩ = some (.slice a' l c) := by simp only [World.cell?, hbxB]; rfl
            have HK' := Lib.hid hk'
            have HP1 := Lib.hid p1
            have HP2 := Lib.hid p2
            have HP3 := Lib.hid p3
            have HGW := Lib.hid hgw
            have HBXB := Lib.hid hbxB
            have hbb := p4.size
            have HP4 := Lib.hid p4
            have HP5 := Lib.hid p5
            have hbxl : wy.heap.size < wb.heap.size := (Array.getElem?_eq_some_iff.1 hbxB).1
            have hdone := Lib.hid HNI.out.done
            have hLen := HL.out
            obtain ⟨i0, hi1, hz0, hz1, hz2⟩ := info_parts info_deed
            clear hk' p1 p2 p3 p4 p5 hgw hbxB hE hof how HADD HNA HNI hbx hal d0 d1 d2 d3 hLen
            go_wp2_with (at_builtin; refine wpList_append_where _ rfl (.tmp 67) (.tmp 69) 25 (by rfl) (w.heap.size + 1) 33 i0 (.agg #[.int .i64 0, .int .i64 0, .string ⟨#[]⟩, .slice none 0 0]) 4 56 Try.underlying25 hi1 hz0 hz1 hz2 (by rfl) (by decide) (.slice aD xs.length cD) xs.length (flatD xs) (by rfl) (HP2.out.alloc _) ⟨_, 0, none⟩ 1 1 [.int .i64 d.kind, .int .i64 d.at_, .string d.key, .slice a' l c] (by rfl) (by rfl) (four_cellsS _ _ _ _ _ _) (by intro u hu; simp at hu; rcases hu with rfl | rfl | rfl | rfl <;> rfl) (by unfold maxLen; omega) (by omega) (by simp; omega) (by decide) ?_; intro v3 w9 hown3 hg3 hk3; obtain ⟨a3, cap3, rfl⟩ : ∃ a c, v3 = .slice a (xs.length + 1) c := (by rcases hown3.2 with ⟨_, hz⟩ | ⟨g, c, cur, hz, _⟩; (· omega); (· exact ⟨_, _, hz⟩)))
            have halb : Below wb.heap.size wb (wb.alloc (.cells #[.int .i64 d.kind, .int .i64 d.at_, .string d.key, .slice a' l c] 33)) := (Below.refl _ _).alloc (Nat.le_refl _) _
            have HN9 := Lib.hid (nev_push (X := ⟨d, a', l, c⟩) (HK'.out.below halb) HP1.out hg3 hown3 hk3 (fun g e => ⟨(HP3.out g e).1, (HGW.out g e).1⟩) hdone.out HX.out (HP4.out.trans (halb.mono hbb)) ((World.cell?_alloc_lt wb _ _ (World.block_lt_of_cell? _ _ HP5.out)).trans HP5.out))
            have hbx9 : w9.heap[wy.heap.size]? = some (.cells #[.int .i64 d.kind, .int .i64 d.at_, .string d.key, .slice a' l c] 33) := ((hg3.block wy.heap.size (by simp; omega) (fun e => by have := (HGW.out _ e.symm).2; omega)).trans (halb.block _ hbxl)).trans HBXB.out
            obtain ⟨ys, hys⟩ : ∃ ys, xs ++ [(⟨d, a', l, c⟩ : DoneS)] = ys := ⟨_, rfl⟩
            rw [hys] at HN9
            have hyl : xs.length + 1 = ys.length := by rw [← hys]; simp
            obtain ⟨n9, hn9⟩ : ∃ n9, xs.length + 1 = n9 := ⟨_, rfl⟩
            rw [hn9] at HN9
            simp only [hn9]
            have HN9L := Lib.hid (show ys.length = n9 by omega)
            have hn9i : n9 ≤ i + 1 := by omega
            obtain ⟨bx, hbxe⟩ : ∃ bx, wy.heap.size = bx := ⟨_, rfl⟩
            rw [hbxe] at hbx9
            simp only [hbxe]
            have hbl9 := (Array.getElem?_eq_some_iff.1 hbx9).1
            have e1 : w9.cell? ⟨bx, 1, none⟩ = some (.int .i64 d.at_) := by simp only [World.cell?, hbx9]; rfl
            have e2 : w9.cell? ⟨bx, 2, none⟩ = some (.string d.key) := by simp only [World.cell?, hbx9]; rfl
            have q1 := HX.out.a0
            have q2 := HX.out.a1
            clear hown3 hg3 hk3 halb hys hyl hbx9 hn9 hbxe g1 g2 g3 g4 HK' HP1 HP2 HP3 HGW HBXB HP4 HP5 hbxl hbb hE0 hz0 hz1 hz2 hi1 HI6 HI4 hkd HX hdone
            have hw9 := HN9.out.below.size
            have h9x := HN9.out.box
            go_loopw [11, 12, 13] (fun x11 x12 _ wr => ∃ (k : Nat) (O : Int), k ≤ n9 ∧ x12 = .int .i64 k ∧ x11 = .int .i64 O ∧ 0 ≤ O ∧ O ≤ 4611686018427387904 ∧ Hid (O = ownN h b d (notesOf (ys.take k))) ∧ Hid (Below w9.heap.size w9 wr)) (fun _ x12 _ _ => n9 - (intOf x12).toNat)
            case atStart => exact ⟨0, 0, Nat.zero_le _, rfl, rfl, by omega, by omega, Lib.hid (by rw [List.take_zero]; rfl), Lib.hid (Below.refl _ _)⟩
            case round =>
              rename World => wv
              obtain ⟨k, O, hk9, rfl, rfl, o0, o1, HO, HBV⟩ := hrel
              by_cases hlk : k < n9
              · have hkl : k < ys.length := by rw [HN9L.out]; exact hlk
                have m0 : (0 : Int) ≤ k := by omega
                have m1 : (k : Int) < n9 := by omega
                obtain ⟨x, hx⟩ : ∃ x, ys[k]? = some x := ⟨_, List.getElem?_eq_getElem hkl⟩
                have hok := HN9.out.done x (List.mem_of_getElem? hx)
                obtain ⟨g9, ha3, hg9⟩ : ∃ g, a3 = some ⟨g, 0, none⟩ ∧ g < w9.heap.size := by
                  rcases HN9.out.row.2 with ⟨hh, _⟩ | ⟨g, cp, cur, hh, _, hgg, _⟩
                  · exfalso; injection hh with h1 h2; omega
                  · injection hh with h1; exact ⟨g, h1, (Array.getElem?_eq_some_iff.1 hgg).1⟩
                subst ha3
                have hrow := HN9.out.row
                rw [HN9L.out] at hrow
                have r1 := (hrow.cellAt (k * 4 + 1) (by omega)).trans (flatD_get hx 1 (by omega))
                have r2 := (hrow.cellAt (k * 4 + 2) (by omega)).trans (flatD_get hx 2 (by omega))
                have r3 := (hrow.cellAt (k * 4 + 3) (by omega)).trans (flatD_get hx 3 (by omega))
                simp only [DoneS.vals, List.getElem?_cons_zero, List.getElem?_cons_succ] at r1 r2 r3
                have R1 := Lib.hid r1
                have R2 := Lib.hid r2
                have R3 := Lib.hid r3
                have HSTEP := Lib.hid (ownN_step (h := h) (b := b) (D := d) hx)
                have HOKX := Lib.hid hok
                have hxl := hok.small
                have HROW := Lib.hid (hok.row.belowS HN9.out.below)
                have xa0 := hok.a0
                have xa1 := hok.a1
                obtain ⟨S0, hS0⟩ : ∃ S0, sumP (ownP h b d) (notesOf (ys.take k)) = S0 := ⟨_, rfl⟩
                have hown0 : ownN h b d (notesOf (ys.take k)) = capS S0 := by unfold ownN; rw [hS0]
                have hS00 : 0 ≤ S0 := by
                  rw [← hS0]
                  refine sumP_nonneg (fun y hy => HN9.out.inv.inv.nonneg y ?_)
                  unfold notesOf at hy ⊢
                  rw [List.mem_flatMap] at hy ⊢
                  obtain ⟨z, hz1, hz2⟩ := hy
                  exact ⟨z, List.mem_of_mem_take hz1, hz2⟩
                rw [hS0, hown0] at HSTEP
                rw [hown0] at HO
                have hfn := hok.fine
                have HFN := Lib.hid hfn
                have qx0 : 0 ≤ x.d.at_ / b := Int.ediv_nonneg xa0 (by omega)
                have qd0 : 0 ≤ d.at_ / b := Int.ediv_nonneg q1 (by omega)
                have qx1 : x.d.at_ / b ≤ x.d.at_ := Int.ediv_le_self _ xa0
                have qd1 : d.at_ / b ≤ d.at_ := Int.ediv_le_self _ q1
                obtain ⟨X1, hX1⟩ : ∃ X1, x.d.at_ / b = X1 := ⟨_, rfl⟩
                obtain ⟨X2, hX2⟩ : ∃ X2, d.at_ / b = X2 := ⟨_, rfl⟩
                obtain ⟨X3, hX3⟩ : ∃ X3, X2 - h.B = X3 := ⟨_, rfl⟩
                have hwin := window_iff HB.out x.d.at_ d.at_
                rw [hX1, hX2, hX3] at hwin
                rw [hX1] at qx0 qx1
                rw [hX2] at qd0 qd1
                have hqa : IntKind.i64.wrap (x.d.at_.tdiv b) = X1 := by rw [Int.tdiv_eq_ediv_of_nonneg xa0, hX1]; exact IntWalk.i64_in _ (by omega)
                have hqb : IntKind.i64.wrap (d.at_.tdiv b) = X2 := by rw [Int.tdiv_eq_ediv_of_nonneg q1, hX2]; exact IntWalk.i64_in _ (by omega)
                have hqc : IntKind.i64.wrap (X2 - h.B) = X3 := by rw [hX3]; exact IntWalk.i64_in _ (by omega)
                have HWIN := Lib.hid hwin
                have hcond : condD h b d x = (decide (X3 < X1) && decide (x.d.key = d.key)) := by
                  unfold condD
                  congr 1
                  exact decide_eq_decide.2 hwin.symm
                have HCOND := Lib.hid hcond
                clear hx hok hrow r1 r2 r3 hS0 hown0 hfn hX1 hX2 hX3 hwin hcond qx1 qd1
                go_wp2_with (fail)
                go_loopw [11, 13] (fun x11 x13 wr => ∃ (n : Nat) (O2 : Int), n ≤ x.l ∧ x13 = .int .i64 n ∧ x11 = .int .i64 O2 ∧ 0 ≤ O2 ∧ O2 ≤ 4611686018427387904 ∧ (condD h b d x = false → n = 0) ∧ Hid (O2 = capS (S0 + sumN (x.d.ns.take n))) ∧ Hid (Below w9.heap.size w9 wr)) (fun _ x13 _ => x.l - (intOf x13).toNat)
                case atStart => exact ⟨0, O, Nat.zero_le _, rfl, rfl, o0, o1, fun _ => rfl, Lib.hid (by rw [List.take_zero]; show O = capS (S0 + 0); rw [Int.add_zero]; exact HO.out), HBV⟩
                case round =>
                  rename World => wu
                  obtain ⟨n, O2, hnl, rfl, rfl, p0, p1, hc0, HO2, HBU⟩ := hrel
                  have e1 := (HBU.out.cell (p := ⟨bx, 1, none⟩) hbl9).trans e1
                  have e2 := (HBU.out.cell (p := ⟨bx, 2, none⟩) hbl9).trans e2
                  have h9x := (HBU.out.cell (p := ⟨w.heap.size, 1, none⟩) (World.block_lt_of_cell? _ _ h9x)).trans h9x
                  have r1 := (HBU.out.cell (p := ⟨g9, k * 4 + 1, none⟩) hg9).trans R1.out
                  have r2 := (HBU.out.cell (p := ⟨g9, k * 4 + 2, none⟩) hg9).trans R2.out
                  have r3 := (HBU.out.cell (p := ⟨g9, k * 4 + 3, none⟩) hg9).trans R3.out
                  by_cases hnx : n < x.l
                  · have j0 : (0 : Int) ≤ n := by omega
                    have j1 : (n : Int) < x.l := by omega
                    have j2 : decide ((n : Int) < x.l) = true := decide_eq_true j1
                    cases hkey : (x.d.key.toList == d.key.toList) with
                    | true =>
                      by_cases hw : X3 < X1
                      · have hwd : decide (X3 < X1) = true := decide_eq_true hw
                        have hnk : n < x.d.ns.length := by rw [HOKX.out.len]; exact hnx
                        obtain ⟨y, hy⟩ : ∃ y, x.d.ns[n]? = some y := ⟨_, List.getElem?_eq_getElem hnk⟩
                        have hyb := HFN.out y (List.mem_of_getElem? hy)
                        obtain ⟨b1, off1, hxa, hb1, hyc⟩ := HROW.out.get hy
                        have hyc := (HBU.out.cell (p := ⟨b1, off1 + n, none⟩) hb1).trans hyc
                        rw [hxa] at r3
                        have HPL := Lib.hid (fun wx => rplusS_any O2 y p0 p1 hyb.1 (by omega) wx)
                        have hcap : plusS O2 y = capS (S0 + sumN (x.d.ns.take (n + 1))) := by
                          rw [HO2.out, plusS_cap1 (by have := sumN_nonneg (ns := x.d.ns.take n) (fun z hz => (HFN.out z (List.mem_of_mem_take hz)).1); omega) hyb.1, sumN_take hy, Int.add_assoc]
                        have hpb := plusS_bd p0 hyb.1
                        have HCAP := Lib.hid hcap
                        have hct : condD h b d x = true := by
                          rw [HCOND.out, hwd]
                          rw [toList_decN] at hkey
                          rw [hkey]; rfl
                        have HCT := Lib.hid hct
                        generalize plusS O2 y = O3 at *
                        clear hcap hct hy hxa hc0
                        go_wp2_with (fail)
                        go_quiet (fail)
                        have r3 : (wu.drewN nq).cell? ⟨g9, k * 4 + 3, none⟩ = some (.slice (some ⟨b1, off1, none⟩) x.l x.c) := r3
                        have hyc : (wu.drewN nq).cell? ⟨b1, off1 + n, none⟩ = some (.int .i64 y) := hyc
                        have HBD := Lib.hid (show Below w9.heap.size w9 (wu.drewN nq) from below_drewS HBU.out nq)
                        clear r1 r2
                        generalize wu.drewN nq = wd at *
                        go_wp2_with (fail)
                        refine (HPL.out _).mono ?_
                        rintro e we ⟨rfl, hq⟩
                        subst hq
                        go_wp2_with (fail)
                        exact ⟨⟨n + 1, O3, by omega, by go_num, rfl, hpb.1, hpb.2, fun hf => (by rw [HCT.out] at hf; cases hf), HCAP, HBD⟩, by first | (simp [intOf]; done) | (simp [intOf]; omega)⟩
                      · have hwd : decide (X3 < X1) = false := decide_eq_false hw
                        have hcf : condD h b d x = false := by rw [HCOND.out, hwd]; rfl
                        have hst : Hid (O2 = ownN h b d (notesOf (ys.take (k + 1)))) := by
                          have h1 := HSTEP.out
                          rw [hcf] at h1
                          have h2 := HO2.out
                          rw [hc0 hcf, List.take_zero] at h2
                          exact Lib.hid (h2.trans (by rw [h1]; show capS (S0 + 0) = _; rw [Int.add_zero]; rfl))
                        clear hcf hc0
                        go_wp2_with (fail)
                        go_quiet (fail)
                        have HBD := Lib.hid (show Below w9.heap.size w9 (wu.drewN nq) from below_drewS HBU.out nq)
                        clear r1 r2 r3
                        generalize wu.drewN nq = wd at *
                        go_wp2_with (fail)
                        exact ⟨⟨k + 1, O2, by omega, by go_num, rfl, p0, p1, hst, HBD⟩, by first | (simp [intOf]; done) | (simp [intOf]; omega)⟩
                    | false =>
                      have hcf : condD h b d x = false := by
                        rw [HCOND.out]
                        rw [toList_decN] at hkey
                        rw [hkey, Bool.and_false]
                      have hst : Hid (O2 = ownN h b d (notesOf (ys.take (k + 1)))) := by
                        have h1 := HSTEP.out
                        rw [hcf] at h1
                        have h2 := HO2.out
                        rw [hc0 hcf, List.take_zero] at h2
                        exact Lib.hid (h2.trans (by rw [h1]; show capS (S0 + 0) = _; rw [Int.add_zero]; rfl))
                      clear hcf hc0
                      go_wp2_with (fail)
                      go_quiet (fail)
                      have HBD := Lib.hid (show Below w9.heap.size w9 (wu.drewN nq) from below_drewS HBU.out nq)
                      clear r1 r2 r3
                      generalize wu.drewN nq = wd at *
                      go_wp2_with (fail)
                      exact ⟨⟨k + 1, O2, by omega, by go_num, rfl, p0, p1, hst, HBD⟩, by first | (simp [intOf]; done) | (simp [intOf]; omega)⟩
                  · have j1 : ¬ (n : Int) < x.l := by omega
                    have j2 : decide ((n : Int) < x.l) = false := decide_eq_false j1
                    have hst : Hid (O2 = ownN h b d (notesOf (ys.take (k + 1)))) := by
                      have h1 := HSTEP.out
                      have h2 := HO2.out
                      rw [List.take_of_length_le (by rw [HOKX.out.len]; omega)] at h2
                      cases hcd : condD h b d x
                      · rw [hcd] at h1
                        have h3 := hc0 hcd
                        have h4 : x.d.ns = [] := List.length_eq_zero_iff.1 (by rw [HOKX.out.len]; omega)
                        rw [h4] at h2
                        exact Lib.hid (h2.trans (by rw [h1]; show capS (S0 + 0) = _; rw [Int.add_zero]; rfl))
                      · rw [hcd] at h1
                        exact Lib.hid (h2.trans h1.symm)
                    clear hc0
                    go_wp2_with (fail)
                    go_quiet (fail)
                    have HBD := Lib.hid (show Below w9.heap.size w9 (wu.drewN nq) from below_drewS HBU.out nq)
                    clear r1 r2 r3
                    generalize wu.drewN nq = wd at *
                    go_wp2_with (fail)
                    exact ⟨⟨k + 1, O2, by omega, by go_num, rfl, p0, p1, hst, HBD⟩, by first | (simp [intOf]; done) | (simp [intOf]; omega)⟩
              · have m1 : ¬ (k : Int) < n9 := by omega
                have eall : ys.take k = ys := List.take_of_length_le (by rw [HN9L.out]; omega)
                rw [eall] at HO
                have HNV := Lib.hid (HN9.out.belowN HBV.out)
                have e1 := (HBV.out.cell (p := ⟨bx, 1, none⟩) hbl9).trans e1
                have e2 := (HBV.out.cell (p := ⟨bx, 2, none⟩) hbl9).trans e2
                have hnn := HNV.out.inv.inv.nonneg
                have hlo := own_le_est (h := h) (b := b) (D := d) hnn
                have hhi := est_le_tot (h := h) (b := b) (at_ := d.at_) (key := d.key) HB.out.R1 hnn
                rw [← HO.out] at hlo
                have HE := Lib.hid (skEstI_any HNV.out.inv HB.out d.at_ d.key e7)
                have HT := Lib.hid (fun (wx : World) (hx : SkInv wx s h b d.at_ (notesOf ys) v' bs') => skTotI_any hx HB.out d.at_)
                simp only [look_last q1 q2, if_true] at HE HT
                generalize estN h b d.at_ d.key (notesOf ys) = EE at *
                generalize totN h b d.at_ (notesOf ys) = TT at *
                have hlo2 : ¬ EE < O := by omega
                have hhi2 : ¬ TT < EE := by omega
                clear eall hnn hlo hhi HN9 HBV HO
                go_wp2_with (fail)
                refine HE.out.mono ?_
                rintro e wf ⟨rfl, hf⟩
                have HNF := Lib.hid (HNV.out.belowN hf)
                have f1 := (hf.cell (p := ⟨bx, 1, none⟩) (World.block_lt_of_cell? _ _ e1)).trans e1
                clear hf HE
                go_wp2_with (fail)
                refine (HT.out _ HNF.out.inv).mono ?_
                rintro e wg ⟨rfl, hg⟩
                have HNG := Lib.hid (HNF.out.belowN hg)
                clear hg HT
                go_wp2_with (fail)
                exact ⟨⟨i + 1, d.at_, ys, v', bs', a3, cap3, by omega, by go_num, by rw [HN9L.out], by rw [HN9L.out]; omega, by rw [HN9L.out]; exact HNG⟩, by first | (simp [intOf]; done) | (simp [intOf]; omega)⟩
          · rw [if_neg hE, if_neg hE] at hk'
            have hE0 : (addE LA d.at_ d.ns != 0) = true := by simpa using hE
            have HNB := Lib.hid (show NevI w s h b LA xs v' bs' (.slice aD xs.length cD) wb from ⟨hk', p1, p2, fun g e => (p3 g e).1, HNI.out.done, p4, p5⟩)
            generalize addE LA d.at_ d.ns = EE at *
            clear hk' p1 p2 p3 p4 p5 hgw hbxB hE hof how HADD HNA HNI hbx hal d0 d1 d2 d3
            go_wp2_with (fail)
            exact ⟨⟨i + 1, LA, xs, v', bs', aD, cD, by omega, by go_num, rfl, by omega, HNB⟩, by first | (simp [intOf]; done) | (simp [intOf]; omega)⟩
        · have hkd : (d.kind != 0) = true := by simp [hkind]
          clear hkind
          go_wp2_with (fail)
          exact ⟨⟨i + 1, LA, xs, v, bs, aD, cD, by omega, by go_num, rfl, by omega, HNA⟩, by first | (simp [intOf]; done) | (simp [intOf]; omega)⟩
      · have k1 : ¬ (i : Int) < len := by omega
        go_wp2_with (fail)
        go_ret
        exact ⟨rfl, HNI.out.below⟩
  · obtain ⟨rfl, rfl⟩ := hp.1 hE
    have hne : (newE h != 0) = true := by simpa using hE
    clear hp hE HOK
    generalize newE h = E at *
    go_wp2_with (fail)
    go_ret
    exact ⟨rfl, hb2⟩

theorem sknever_law {w : World} (W : Int) (wW : (Lit.int .i64 W).wf = true) (B : Int) (wB : (Lit.int .i64 B).wf = true) (R : Int) (wR : (Lit.int .i64 R).wf = true) (C : Int) (wC : (Lit.int .i64 C).wf = true) (seed : Int) (ws : (Lit.int .u64 seed).wf = true)
    (a : Option Addr) (len cap : Nat) (V : Nat → Nat → Value) (hm : len ≤ 140737488351232) (hr : RecsAt w a 4 len V) (hB : len * 56 ≤ 140737488351232)
    (h0 : ∀ j, j < len → V j 0 = .int .i64 (intOf (V j 0)) ∧ (Lit.int .i64 (intOf (V j 0))).wf = true) (h1 : ∀ j, j < len → V j 1 = .int .i64 (intOf (V j 1)) ∧ (Lit.int .i64 (intOf (V j 1))).wf = true)
    (h2 : ∀ j, j < len → V j 2 = .string (strOf (V j 2)) ∧ (strOf (V j 2)).size ≤ maxLen)
    (h3 : ∀ j, j < len → ∃ (a : Option Addr) (l c : Nat) (ns : List Int), V j 3 = .slice a l c ∧ ns.length = l ∧ l ≤ 9223372036854775807 ∧ I64s ns ∧ IntsAt w a ns) :
    Calls Try.prog 3 #[.agg #[.int .i64 W, .int .i64 B, .int .i64 R, .int .i64 C, .int .u64 seed], .slice a len cap] w fun e w' => e = .returned (.bool true) ∧ Below w.heap.size w w' := by
  obtain ⟨ds, hl, hd⟩ := deeds_of hr h0 h1 h2 h3
  simp only [Lit.wf, IntKind.min, IntKind.max, IntKind.signed, IntKind.bits, Bool.and_eq_true, decide_eq_true_eq] at ws
  exact sknever_walk w ⟨W, B, R, C, seed⟩ (by simpa using ws.1) (by simpa using ws.2) a len cap ds hl hB hd
end Go.Proofs.Ytogdnacambjhpaa
