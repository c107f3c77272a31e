/- The laws of the layer sketch: SketchRows. -/
import Derived.Test.YtogdnacambjhpaaSkL
namespace Go.Proofs.Ytogdnacambjhpaa
open Go.RowKit
set_option linter.unusedVariables false
set_option linter.unusedSimpArgs false

def moreRows (h : ShapeS) (R2 : Int) : ShapeS := ⟨h.W, h.B, R2, h.C, h.seed⟩
theorem more_less {h : ShapeS} {R2 : Int} (h2 : IntKind.i64.wrap (h.R + 1) = R2) (hR : 1 ≤ h.R ∧ h.R ≤ 8) (b at_ : Int) (key : ByteArray) (notes : List NoteS) : estN (moreRows h R2) b at_ key notes ≤ estN h b at_ key notes := by
  have hw : (moreRows h R2).R = h.R + 1 := h2.symm.trans (IntWalk.i64_in _ (by omega))
  unfold estN
  have hn : (moreRows h R2).R.toNat = h.R.toNat + 1 := by rw [hw]; omega
  rw [hn]
  show min _ _ ≤ _
  exact Int.min_le_left _ _
theorem SkInv.kept {w w' : World} {s : Nat} {h : ShapeS} {b last : Int} {notes : List NoteS} {v : Value} {bs : List BkS} (k : SkInv w s h b last notes v bs) (hk : ∀ i, SkOwn s v bs i → w'.heap[i]? = w.heap[i]?) : SkInv w' s h b last notes v bs := ⟨k.at_.kept hk, k.inv⟩

set_option maxHeartbeats 6400000 in
set_option maxRecDepth 100000 in
theorem skrows_walk (w : World) (h : ShapeS) (s0 : 0 ≤ h.seed) (s1 : h.seed ≤ 18446744073709551615) (a : Option Addr) (len cap : Nat) (ds : List DeedS) (hl : ds.length = len) (hm : len ≤ 140737488351232) (hd : DeedsAt w a ds) (key : ByteArray) (hk : key.size ≤ maxLen) :
    Calls Try.prog 5 #[.agg h.c, .slice a len cap, .string key] w fun e w' => e = .returned (.bool true) ∧ Below w.heap.size w w' := by
  have HLV := Lib.hid (fun (w : World) => sklive_any w)
  obtain ⟨R2, hR2⟩ : ∃ R2, IntKind.i64.wrap (h.R + 1) = R2 := ⟨_, rfl⟩
  have HRR := Lib.hid hR2
  have HR1 := Lib.hid (fun (wx : World) (hb : Below w.heap.size w wx) => skrun_any wx h s0 s1 a len cap ds hl hm (hd.below hb))
  have HR2 := Lib.hid (fun (wx : World) (hb : Below w.heap.size w wx) => skrun_any wx (moreRows h R2) s0 s1 a len cap ds hl hm (hd.below hb))
  have HOK1 := Lib.hid (fun hE => newE_ok (h := h) hE s0 s1)
  have HOK2 := Lib.hid (fun hE => newE_ok (h := moreRows h R2) hE s0 s1)
  have hbx : Below w.heap.size w (w.alloc (.cells h.c 24)) := (Below.refl _ _).alloc (Nat.le_refl _) _
  have hnew := new_blockS w (.cells h.c 24)
  have hzx : (w.alloc (.cells h.c 24)).heap.size = w.heap.size + 1 := by simp
  have hkk := Lib.hid hk
  clear hl hd hk
  have hmc : (moreRows h R2).c = #[.int .i64 h.W, .int .i64 h.B, .int .i64 (R2), .int .i64 h.C, .int .u64 h.seed] := rfl
  rw [hmc] at HR2
  clear hmc
  unfold ShapeS.c at *
  go_enter Try.func5, Try.ntmps5
  go_wp2_with (fail)
  refine (HLV.out _).mono ?_
  rintro e w2 ⟨rfl, h2⟩
  have hb2 := hbx.trans (h2.mono (by omega))
  have hn2 := (h2.block w.heap.size (by omega)).trans hnew
  have hz2 := h2.size
  have HR1 := Lib.hid (HR1.out w2 hb2)
  clear hnew hbx h2
  have c0 : w2.cell? ⟨w.heap.size, 0, none⟩ = some (.int .i64 h.W) := by simp only [World.cell?, hn2]; rfl
  have c1 : w2.cell? ⟨w.heap.size, 1, none⟩ = some (.int .i64 h.B) := by simp only [World.cell?, hn2]; rfl
  have c2 : w2.cell? ⟨w.heap.size, 2, none⟩ = some (.int .i64 h.R) := by simp only [World.cell?, hn2]; rfl
  have c3 : w2.cell? ⟨w.heap.size, 3, none⟩ = some (.int .i64 h.C) := by simp only [World.cell?, hn2]; rfl
  have c4 : w2.cell? ⟨w.heap.size, 4, none⟩ = some (.int .u64 h.seed) := by simp only [World.cell?, hn2]; rfl
  go_wp2_with (fail)
  refine HR1.out.mono ?_
  intro e w3 hp1
  have hbel := hp1.bel
  have hb3 := hb2.trans (hbel.mono (by omega))
  have hn3 := (hbel.block w.heap.size (by omega)).trans hn2
  have hz3 := hbel.size
  have c0 : w3.cell? ⟨w.heap.size, 0, none⟩ = some (.int .i64 h.W) := by simp only [World.cell?, hn3]; rfl
  have c1 : w3.cell? ⟨w.heap.size, 1, none⟩ = some (.int .i64 h.B) := by simp only [World.cell?, hn3]; rfl
  have c2 : w3.cell? ⟨w.heap.size, 2, none⟩ = some (.int .i64 h.R) := by simp only [World.cell?, hn3]; rfl
  have c3 : w3.cell? ⟨w.heap.size, 3, none⟩ = some (.int .i64 h.C) := by simp only [World.cell?, hn3]; rfl
  have c4 : w3.cell? ⟨w.heap.size, 4, none⟩ = some (.int .u64 h.seed) := by simp only [World.cell?, hn3]; rfl
  have hfr : w3.frozen? ⟨w.heap.size, 2, none⟩ = false := frozen_of_row w3 w.heap.size 2 _ _ hn3
  have hb4 : Below w.heap.size w (w3.setCell ⟨w.heap.size, 2, none⟩ (.int .i64 (R2))) := hb3.setCell (Nat.le_refl _) _
  have HR2 := Lib.hid (HR2.out _ hb4)
  have HP1 := Lib.hid hp1
  have HB2 := Lib.hid hb2
  clear hbel hb2 hn2
  by_cases hE1 : newE h = 0
  · obtain ⟨s, v, bs, rfl, hi1, ho1⟩ := hp1.yes hE1
    have hI4 : SkInv (w3.setCell ⟨w.heap.size, 2, none⟩ (.int .i64 (R2))) s h (h.W / h.B) (runN ds).1 (runN ds).2 v bs := hi1.kept (fun i hi => heap_setCell_other w3 _ i _ (fun e => by have := ho1 i hi; dsimp only at e; omega))
    have HI4 := Lib.hid hI4
    have HOK := Lib.hid (HOK1.out hE1)
    clear hp1 hi1 hE1 hI4 HP1 HOK1
    go_wp2_with (fail)
    refine HR2.out.mono ?_
    intro e w5 hp2
    have hb5 := hb4.trans (hp2.bel.mono hb4.size)
    have HI5 := Lib.hid (HI4.out.below hp2.bel)
    clear HI4 hb4
    by_cases hE2 : newE (moreRows h R2) = 0
    · obtain ⟨s', v', bs', rfl, hi2, ho2⟩ := hp2.yes hE2
      have HOKB := Lib.hid (HOK2.out hE2)
      have HI2 := Lib.hid (show SkInv w5 s' (moreRows h R2) (h.W / h.B) (runN ds).1 (runN ds).2 v' bs' from hi2)
      have hl0 := hi2.at_.l0
      have hl1 := hi2.at_.l1
      have hML := more_less HRR.out ⟨HOK.out.R1, HOK.out.R2⟩ (h.W / h.B) (runN ds).1 key (runN ds).2
      have HB5 := Lib.hid hb5
      clear hp2 hi2 hE2 hb5 HR2 HOK2
      generalize (runN ds).1 = LA at *
      generalize (runN ds).2 = notes at *
      have HLA := Lib.hid (look_last hl0 hl1)
      go_wp2_with (fail)
      refine (skLast_any HI5.out.at_).mono ?_
      rintro e wq ⟨rfl, hq⟩
      subst hq
      go_wp2_with (fail)
      have HE1 := Lib.hid (skEstI_any HI5.out HOK.out LA key hkk.out)
      rw [HLA.out, if_pos rfl] at HE1
      refine HE1.out.mono ?_
      rintro e w6 ⟨rfl, h6⟩
      have HB6 := Lib.hid (HB5.out.trans (h6.mono HB5.out.size))
      have HI6 := Lib.hid (HI5.out.below h6)
      have HJ6 := Lib.hid (HI2.out.below h6)
      clear HE1 h6
      go_wp2_with (fail)
      refine (skLast_any HJ6.out.at_).mono ?_
      rintro e wq2 ⟨rfl, hq⟩
      subst hq
      go_wp2_with (fail)
      have HE2 := Lib.hid (skEstI_any HJ6.out HOKB.out LA key hkk.out)
      rw [HLA.out, if_pos rfl] at HE2
      refine HE2.out.mono ?_
      rintro e w7 ⟨rfl, h7⟩
      have HB7 := Lib.hid (HB6.out.trans (h7.mono HB6.out.size))
      have HI7 := Lib.hid (HI6.out.below h7)
      have HJ7 := Lib.hid (HJ6.out.below h7)
      clear HE2 h7
      go_wp2_with (fail)
      refine (skLast_any HI7.out.at_).mono ?_
      rintro e wq3 ⟨rfl, hq⟩
      subst hq
      go_wp2_with (fail)
      refine (skLast_any HJ7.out.at_).mono ?_
      rintro e wq4 ⟨rfl, hq⟩
      subst hq
      go_wp2_with (fail)
      go_ret
      exact ⟨by simp [hML], HB7.out⟩
    · have hr := hp2.no hE2
      subst hr
      have hne : (newE (moreRows h R2) != 0) = true := by simpa using hE2
      generalize newE (moreRows h R2) = E2 at *
      clear hp2
      go_wp2_with (fail)
      go_ret
      exact ⟨rfl, hb5⟩
  · have hr := hp1.no hE1
    subst hr
    have hne : (newE h != 0) = true := by simpa using hE1
    have HE1 := Lib.hid hE1
    clear hE1 HP1 hp1 HOK1
    generalize newE h = E1 at *
    go_wp2_with (fail)
    refine HR2.out.mono ?_
    intro e w5 hp2
    have hb5 := hb4.trans (hp2.bel.mono hb4.size)
    by_cases hE2 : newE (moreRows h R2) = 0
    · obtain ⟨s', v', bs', rfl, hi2, ho2⟩ := hp2.yes hE2
      clear hp2 hi2 hE2
      go_wp2_with (fail)
      go_ret
      exact ⟨rfl, hb5⟩
    · have hr := hp2.no hE2
      subst hr
      clear hp2
      generalize newE (moreRows h R2) = E2 at *
      go_wp2_with (fail)
      go_ret
      exact ⟨rfl, hb5⟩

theorem skrows_law {w : World} (W : Int) (wW : (Lit.int .i64 W).wf = true) (B : Int) (wB : (Lit.int .i64 B).wf = true) (R : Int) (wR : (Lit.int .i64 R).wf = true) (C : Int) (wC : (Lit.int .i64 C).wf = true) (seed : Int) (ws : (Lit.int .u64 seed).wf = true)
    (a : Option Addr) (len cap : Nat) (V : Nat → Nat → Value) (hm : len ≤ 140737488351232) (hr : RecsAt w a 4 len V) (hB : len * 56 ≤ 140737488351232)
    (h0 : ∀ j, j < len → V j 0 = .int .i64 (intOf (V j 0)) ∧ (Lit.int .i64 (intOf (V j 0))).wf = true) (h1 : ∀ j, j < len → V j 1 = .int .i64 (intOf (V j 1)) ∧ (Lit.int .i64 (intOf (V j 1))).wf = true)
    (h2 : ∀ j, j < len → V j 2 = .string (strOf (V j 2)) ∧ (strOf (V j 2)).size ≤ maxLen)
    (h3 : ∀ j, j < len → ∃ (a : Option Addr) (l c : Nat) (ns : List Int), V j 3 = .slice a l c ∧ ns.length = l ∧ l ≤ 9223372036854775807 ∧ I64s ns ∧ IntsAt w a ns)
    (key : ByteArray) (wk : key.size ≤ maxLen) :
    Calls Try.prog 5 #[.agg #[.int .i64 W, .int .i64 B, .int .i64 R, .int .i64 C, .int .u64 seed], .slice a len cap, .string key] w fun e w' => e = .returned (.bool true) ∧ Below w.heap.size w w' := by
  obtain ⟨ds, hl, hd⟩ := deeds_of hr h0 h1 h2 h3
  simp only [Lit.wf, IntKind.min, IntKind.max, IntKind.signed, IntKind.bits, Bool.and_eq_true, decide_eq_true_eq] at ws
  exact skrows_walk w ⟨W, B, R, C, seed⟩ (by simpa using ws.1) (by simpa using ws.2) a len cap ds hl hm hd key wk
end Go.Proofs.Ytogdnacambjhpaa
