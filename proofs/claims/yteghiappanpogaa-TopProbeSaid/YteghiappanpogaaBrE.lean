/- breaker: an entry is over. -/
import Derived.Test.YteghiappanpogaaBrD
namespace Go.Proofs.Yteghiappanpogaa
open Go.RowKit
set_option linter.unusedVariables false
set_option linter.unusedSimpArgs false

def bdoneE (s : BrS) (at_ rt : Int) (probe : Bool) : Int :=
  if lookW s.la at_ = 2 ∨ isT rt = false then 2 else if lookW s.la at_ ≠ 0 then lookW s.la at_ else if probe = true ∧ s.st ≠ 3 then 4 else 0
def endC (bad : Bool) : CntS := ⟨0, 0, 1, if bad then 1 else 0, 0, 0⟩
theorem endC_right (bad : Bool) : RightC (endC bad) := by
  cases bad <;> constructor <;> simp [endC]
def addS (s : BrS) (at_ : Int) (bad : Bool) : BrS := { s with la := at_, wl := at_, notes := s.notes ++ newW at_ [endC bad] }
def bdoneS (r : BreakS) (s : BrS) (at_ rt : Int) (failed probe : Bool) : BrS :=
  if bdoneE s at_ rt probe = 0 then
    if probe then (if badB r rt failed then openS r { s with la := at_ } at_ else { s with la := at_, st := 1, wl := 0, notes := [] })
    else if s.st = 1 then (if overB r (winC r.win 1 at_ (s.notes ++ newW at_ [endC (badB r rt failed)])) then openS r (addS s at_ (badB r rt failed)) at_ else addS s at_ (badB r rt failed))
    else { s with la := at_ }
  else s
structure DoneB (w : World) (q p m : Nat) (r : BreakS) (s : BrS) (at_ rt : Int) (failed probe : Bool) (e : Ending) (w' : World) : Prop where
  e : e = .returned (.int .i64 (bdoneE s at_ rt probe))
  at' : ∃ p' m', BrAt w' q p' m' r (bdoneS r s at_ rt failed probe) ∧ Off (BOwn q p m) w w' ∧ ((p' = p ∧ m' = m) ∨ (w.heap.size ≤ p' ∧ w.heap.size ≤ m'))
theorem DoneB.no {w : World} {q p m : Nat} {r : BreakS} {s : BrS} {at_ rt : Int} {failed probe : Bool} {e : Ending} (h : BrAt w q p m r s) {x : Int} (hE : bdoneE s at_ rt probe = x) (hx : x ≠ 0) (he : e = .returned (.int .i64 x)) : DoneB w q p m r s at_ rt failed probe e w :=
  ⟨by rw [hE]; exact he, p, m, by unfold bdoneS; rw [if_neg (by rw [hE]; exact hx)]; exact h, Off.ofBelow (Below.refl _ _), Or.inl ⟨rfl, rfl⟩⟩
theorem isT_lo {rt : Int} (h : rt < 0) : isT rt = false := by unfold isT; rw [decide_eq_false (by omega)]; rfl
theorem isT_hi {rt : Int} (h : 1152921504606846976 < rt) : isT rt = false := by unfold isT; rw [decide_eq_false (p := rt ≤ _) (by omega), Bool.and_false]
theorem isT_ok {rt : Int} (h0 : ¬ rt < 0) (h1 : ¬ 1152921504606846976 < rt) : isT rt = true := by unfold isT; rw [decide_eq_true (by omega), decide_eq_true (by omega)]; rfl

set_option maxHeartbeats 6400000 in
set_option maxRecDepth 100000 in
theorem bdone_any {w : World} {q p m : Nat} {r : BreakS} {s : BrS} (h : BrAt w q p m r s) (at_ rt : Int) (failed probe : Bool) :
    Calls Try.prog 9 #[.pointer (some ⟨q, 0, none⟩), .int .i64 at_, .int .i64 rt, .bool failed, .bool probe] w (DoneB w q p m r s at_ rt failed probe) := by
  have HL := Lib.hid (blook_any h at_)
  have HH := Lib.hid h
  rcases lookW_cases s.la at_ with hE | hE | hE
  · by_cases hr0 : rt < 0
    · have HC := Lib.hid (show bdoneE s at_ rt probe = 2 by unfold bdoneE; rw [if_pos (Or.inr (isT_lo hr0))])
      rw [hE] at HL
      clear hE h
      go_enter Try.func9, Try.ntmps9
      go_wp2_with (fail)
      refine HL.out.mono ?_
      rintro e wq ⟨rfl, hq⟩
      have hq := hq.symm
      subst hq
      go_wp2_with (fail)
      go_ret
      exact DoneB.no HH.out HC.out (by decide) rfl
    · by_cases hr1 : 1152921504606846976 < rt
      · have HC := Lib.hid (show bdoneE s at_ rt probe = 2 by unfold bdoneE; rw [if_pos (Or.inr (isT_hi hr1))])
        rw [hE] at HL
        clear hE h
        go_enter Try.func9, Try.ntmps9
        go_wp2_with (fail)
        refine HL.out.mono ?_
        rintro e wq ⟨rfl, hq⟩
        have hq := hq.symm
        subst hq
        go_wp2_with (fail)
        go_ret
        exact DoneB.no HH.out HC.out (by decide) rfl
      · have HLW := Lib.hid hE
        have HRT := Lib.hid (isT_ok hr0 hr1)
        obtain ⟨a0, a1, a2⟩ := lookW_ok hE
        have h1 := h.set (s' := { s with la := at_ }) 11 (.int .i64 at_) rfl rfl rfl (by have := h.wl; show s.wl ≤ at_; omega) a0 a1 h.st
        have HO1 := Lib.hid ((Off.ofBelow (S := fun i => i = q) (Below.refl _ w)).setCell (p := ⟨q, 11, none⟩) (fun _ => rfl) (.int .i64 at_))
        have HH1 := Lib.hid h1
        have c8 := h.cells.c8
        have c11 := h.cells.c11
        have f11 := br_frozen h 11
        have HBAD := Lib.hid (bbad_any h1.cells rt failed)
        obtain ⟨B, hB⟩ : ∃ B, badB r rt failed = B := ⟨_, rfl⟩
        rw [hB] at HBAD
        have HBB := Lib.hid hB
        rw [hE] at HL
        cases probe with
        | true =>
          by_cases hst : s.st = 3
          · have HC := Lib.hid (show bdoneE s at_ rt true = 0 by unfold bdoneE; rw [if_neg (by rw [HLW.out, HRT.out]; simp), if_neg (by rw [HLW.out]; simp), if_neg (by simp [hst])])
            rw [hst] at c8
            cases B with
            | true =>
              have HOP := Lib.hid (bopen_any h1 at_ a0 a1)
              clear h h1 hE hB hst a0 a1 a2
              go_enter Try.func9, Try.ntmps9
              go_wp2_with (fail)
              refine HL.out.mono ?_
              rintro e wq ⟨rfl, hq⟩
              have hq := hq.symm
              subst hq
              go_wp2_with (fail)
              refine HBAD.out.mono ?_
              rintro e wq ⟨rfl, hq⟩
              subst hq
              go_wp2_with (fail)
              refine HOP.out.mono ?_
              rintro e w2 ⟨rfl, hh2, ho2⟩
              have HH2 := Lib.hid hh2
              have HO2 := Lib.hid ho2
              clear hh2 ho2
              go_wp2_with (fail)
              go_ret
              exact ⟨by rw [HC.out]; rfl, p, m, by unfold bdoneS; rw [if_pos HC.out, if_pos rfl, if_pos HBB.out]; exact HH2.out, (off_q HO1.out).trans (off_q HO2.out) (fun _ _ h => h), Or.inl ⟨rfl, rfl⟩⟩
            | false =>
              have h2 := h1.set (s' := { s with la := at_, st := 1 }) 8 (.int .u8 1) rfl rfl rfl h1.wl a0 a1 (Or.inl rfl)
              have HO2 := Lib.hid (HO1.out.setCell (p := ⟨q, 8, none⟩) (fun _ => rfl) (.int .u8 1))
              have d8 := h1.cells.c8
              have f8 := br_frozen h1 8
              have HCL := Lib.hid (bclear_any (pv := .pointer (some ⟨p, 0, none⟩)) (s := { s with la := at_, st := 1 }) h2.head h.ok)
              have HQ2 := Lib.hid (h2.lt (Or.inl rfl))
              have HA0 := Lib.hid a0
              have HA1 := Lib.hid a1
              have HSZ := Lib.hid (show w.heap.size ≤ ((w.setCell ⟨q, 11, none⟩ (.int .i64 at_)).setCell ⟨q, 8, none⟩ (.int .u8 1)).heap.size from HO2.out.size)
              clear h h1 h2 hE hB hst a0 a1 a2
              go_enter Try.func9, Try.ntmps9
              go_wp2_with (fail)
              refine HL.out.mono ?_
              rintro e wq ⟨rfl, hq⟩
              have hq := hq.symm
              subst hq
              go_wp2_with (fail)
              refine HBAD.out.mono ?_
              rintro e wq ⟨rfl, hq⟩
              subst hq
              go_wp2_with (fail)
              refine HCL.out.mono ?_
              rintro e w3 ⟨rfl, hh3, hw3, ho3⟩
              have HH3 := Lib.hid hh3
              have HW3 := Lib.hid hw3
              have HO3 := Lib.hid ho3
              clear hh3 hw3 ho3
              go_wp2_with (fail)
              go_ret
              exact ⟨by rw [HC.out]; rfl, _, _, by
                unfold bdoneS
                rw [if_pos HC.out, if_pos rfl, if_neg (by rw [HBB.out]; simp)]
                exact ⟨HH3.out, HW3.out, (by have := HQ2.out; omega), (by have := HQ2.out; omega), HA0.out, HA0.out, HA1.out, Or.inl rfl, HH.out.ok⟩, (off_q HO2.out).trans (off_q HO3.out) (fun _ _ h => h), Or.inr ⟨by have := HSZ.out; omega, HSZ.out⟩⟩
          · have HC := Lib.hid (show bdoneE s at_ rt true = 4 by unfold bdoneE; rw [if_neg (by rw [HLW.out, HRT.out]; simp), if_neg (by rw [HLW.out]; simp), if_pos ⟨rfl, hst⟩])
            have hne : (s.st != 3) = true := by simpa using hst
            clear h1 h hE hB hst a0 a1 a2
            generalize hT : s.st = T at c8 hne
            clear hT
            go_enter Try.func9, Try.ntmps9
            go_wp2_with (fail)
            refine HL.out.mono ?_
            rintro e wq ⟨rfl, hq⟩
            have hq := hq.symm
            subst hq
            go_wp2_with (fail)
            go_ret
            exact DoneB.no HH.out HC.out (by decide) rfl
        | false =>
          have HC := Lib.hid (show bdoneE s at_ rt false = 0 by unfold bdoneE; rw [if_neg (by rw [HLW.out, HRT.out]; simp), if_neg (by rw [HLW.out]; simp), if_neg (by simp)])
          have d7 := h1.cells.c7
          have d8 := h1.cells.c8
          dsimp only at d8
          by_cases hst : s.st = 1
          · rw [hst] at c8 d8
            have HST := Lib.hid hst
            have HA0 := Lib.hid a0
            have HA1 := Lib.hid a1
            have HWL := Lib.hid (show lookW s.wl at_ = 0 by have h8 := h.wl; unfold lookW; rw [if_neg (by omega), if_neg (by omega)])
            have HLA := Lib.hid (show lookW at_ at_ = 0 by unfold lookW; rw [if_neg (by omega), if_neg (by omega)])
            clear h h1 hE hB hst a0 a1 a2
            cases B with
            | true =>
              have hsz1 : (w.setCell ⟨q, 11, none⟩ (.int .i64 at_)).heap.size = w.heap.size := by simp [World.setCell]
              have HNEW := Lib.hid (show ((w.setCell ⟨q, 11, none⟩ (.int .i64 at_)).alloc (.cells #[.int .i64 0, .int .i64 0, .int .i64 1, .int .i64 1, .int .i64 0, .int .i64 0] 59)).heap[w.heap.size]? = some (.cells #[.int .i64 0, .int .i64 0, .int .i64 1, .int .i64 1, .int .i64 0, .int .i64 0] 59) by rw [← hsz1]; exact (get_allocW _ _ _).trans (if_pos rfl))
              have HBEL := Lib.hid (show Below (w.setCell ⟨q, 11, none⟩ (.int .i64 at_)).heap.size (w.setCell ⟨q, 11, none⟩ (.int .i64 at_)) ((w.setCell ⟨q, 11, none⟩ (.int .i64 at_)).alloc (.cells #[.int .i64 0, .int .i64 0, .int .i64 1, .int .i64 1, .int .i64 0, .int .i64 0] 59)) from (Below.refl _ _).alloc (Nat.le_refl _) _)
              have HSZ := Lib.hid (show ((w.setCell ⟨q, 11, none⟩ (.int .i64 at_)).alloc (.cells #[.int .i64 0, .int .i64 0, .int .i64 1, .int .i64 1, .int .i64 0, .int .i64 0] 59)).heap.size = w.heap.size + 1 by simp [World.setCell])
              have HS1 := Lib.hid hsz1
              clear hsz1
              go_enter Try.func9, Try.ntmps9
              go_wp2_with (fail)
              refine HL.out.mono ?_
              rintro e wq ⟨rfl, hq⟩
              have hq := hq.symm
              subst hq
              go_wp2_with (fail)
              refine HBAD.out.mono ?_
              rintro e wq ⟨rfl, hq⟩
              subst hq
              go_wp2_with (fail)
              obtain ⟨w3, hw3⟩ : ∃ w3, ((w.setCell ⟨q, 11, none⟩ (.int .i64 at_)).alloc (.cells #[.int .i64 0, .int .i64 0, .int .i64 1, .int .i64 1, .int .i64 0, .int .i64 0] 59)) = w3 := ⟨_, rfl⟩
              rw [hw3] at HNEW HBEL HSZ ⊢
              clear hw3
              obtain ⟨w1, hw1⟩ : ∃ w1, (w.setCell ⟨q, 11, none⟩ (.int .i64 at_)) = w1 := ⟨_, rfl⟩
              rw [hw1] at HBEL HS1 HH1 HO1 d7
              clear hw1
              have HW3 := Lib.hid (HH1.out.win.below HBEL.out)
              have HP3 := Lib.hid ((HBEL.out.cell (p := ⟨q, 7, none⟩) (HH1.out.lt (Or.inl rfl))).trans d7)
              obtain ⟨⟨z0, z1, z2, z3, z4, z5⟩, zf⟩ := ct_cells (c := ⟨0, 0, 1, 1, 0, 0⟩) HNEW.out
              dsimp only at z0 z1 z2 z3 z4 z5
              have HSB := Lib.hid (show ∀ wx, Off (fun i => i = p ∨ i = m) w3 wx → (fun wx => Off (fun i => i = p ∨ i = m) w3 wx ∧ wx.cell? ⟨q, 7, none⟩ = some (.pointer (some ⟨p, 0, none⟩)) ∧ wx.cell? ⟨w.heap.size, 0, none⟩ = some (.int .i64 0) ∧ wx.cell? ⟨w.heap.size, 1, none⟩ = some (.int .i64 0) ∧ wx.cell? ⟨w.heap.size, 2, none⟩ = some (.int .i64 1) ∧ wx.cell? ⟨w.heap.size, 3, none⟩ = some (.int .i64 1) ∧ wx.cell? ⟨w.heap.size, 4, none⟩ = some (.int .i64 0) ∧ wx.cell? ⟨w.heap.size, 5, none⟩ = some (.int .i64 0)) wx from fun wx hb => by
                have hlp := HH1.out.lt (i := p) (Or.inr (Or.inl rfl))
                have hlm := HH1.out.lt (i := m) (Or.inr (Or.inr rfl))
                have hlq := HH1.out.lt (i := q) (Or.inl rfl)
                rw [HS1.out] at hlp hlm hlq
                have hz := HSZ.out
                obtain ⟨⟨y0, y1, y2, y3, y4, y5⟩, yf⟩ := ct_cells (c := ⟨0, 0, 1, 1, 0, 0⟩) ((hb.block w.heap.size (by omega) (by omega)).trans HNEW.out)
                exact ⟨hb, (World.cell?_of_block (a := ⟨q, 7, none⟩) (hb.block q (by omega) (fun h => by rcases h with h | h; exact HH.out.qp h; exact HH.out.qm h))).trans HP3.out, y0, y1, y2, y3, y4, y5⟩)
              have HADD := Lib.hid (fun (wx : World) (hb : Below w3.heap.size w3 wx) => wAddN_any ((HW3.out.below hb).below ((Below.refl wx.heap.size wx).alloc (Nat.le_refl _) (ctO (endC true) 59))) at_ HWL.out (some ⟨wx.heap.size, 0, none⟩) 1 1 [endC true] rfl (by omega) (fun e => by cases e) (cts_one (w := wx) (endC true)) (fun c hc => by obtain rfl := List.mem_singleton.1 hc; exact endC_right _) (fun g off e => by
                cases e
                have h1 := HW3.out.lt
                have h2 := hb.size
                omega))
              unfold ctO endC at HADD
              simp only [if_true, Bool.false_eq_true, if_false] at HADD
              clear z0 z1 z2 z3 z4 z5 zf d7 d8 c8 c11
              refine wp_region_noPanic ?_
              refine wp_region_held_drew (S := fun wx => Off (fun i => i = p ∨ i = m) w3 wx ∧ wx.cell? ⟨q, 7, none⟩ = some (.pointer (some ⟨p, 0, none⟩)) ∧ wx.cell? ⟨w.heap.size, 0, none⟩ = some (.int .i64 0) ∧ wx.cell? ⟨w.heap.size, 1, none⟩ = some (.int .i64 0) ∧ wx.cell? ⟨w.heap.size, 2, none⟩ = some (.int .i64 1) ∧ wx.cell? ⟨w.heap.size, 3, none⟩ = some (.int .i64 1) ∧ wx.cell? ⟨w.heap.size, 4, none⟩ = some (.int .i64 0) ∧ wx.cell? ⟨w.heap.size, 5, none⟩ = some (.int .i64 0)) (by kernel_rfl) ?_ (fun hHeld => ?_)
              · exact HSB.out _ (Off.ofBelow (Below.refl _ _).drew)
              refine wpAnyH_take (i := 0) (v := ?_) rfl (by kernel_rfl) (by kernel_rfl) (by kernel_rfl) (fun _ _ _ h => h) (Or.inl ⟨by rfl, ?hy⟩) (by assumption) ?_
              case hy => intro w hSw; (try dsimp only at hSw); go_simp; try with_reducible rfl
              try simp only [Act.put, List.getElem_toArray, List.getElem_cons_succ, List.getElem_cons_zero, List.setIfInBounds_toArray, List.set_cons_zero, List.set_cons_succ]
              refine wpAnyH_take (i := 1) (v := ?_) rfl (by kernel_rfl) (by kernel_rfl) (by kernel_rfl) (fun _ _ _ h => h) (Or.inl ⟨by rfl, ?hy⟩) (by assumption) ?_
              case hy => intro w hSw; (try dsimp only at hSw); go_simp; try with_reducible rfl
              try simp only [Act.put, List.getElem_toArray, List.getElem_cons_succ, List.getElem_cons_zero, List.setIfInBounds_toArray, List.set_cons_zero, List.set_cons_succ]
              refine wpAnyH_take (i := 2) (v := ?_) rfl (by kernel_rfl) (by kernel_rfl) (by kernel_rfl) (fun _ _ _ h => h) (Or.inl ⟨by rfl, ?hy⟩) (by assumption) ?_
              case hy => intro w hSw; (try dsimp only at hSw); go_simp; try with_reducible rfl
              try simp only [Act.put, List.getElem_toArray, List.getElem_cons_succ, List.getElem_cons_zero, List.setIfInBounds_toArray, List.set_cons_zero, List.set_cons_succ]
              refine wpAnyH_take (i := 3) (v := ?_) rfl (by kernel_rfl) (by kernel_rfl) (by kernel_rfl) (fun _ _ _ h => h) (Or.inl ⟨by rfl, ?hy⟩) (by assumption) ?_
              case hy => intro w hSw; (try dsimp only at hSw); go_simp; try with_reducible rfl
              try simp only [Act.put, List.getElem_toArray, List.getElem_cons_succ, List.getElem_cons_zero, List.setIfInBounds_toArray, List.set_cons_zero, List.set_cons_succ]
              refine wpAnyH_take (i := 4) (v := ?_) rfl (by kernel_rfl) (by kernel_rfl) (by kernel_rfl) (fun _ _ _ h => h) (Or.inl ⟨by rfl, ?hy⟩) (by assumption) ?_
              case hy => intro w hSw; (try dsimp only at hSw); go_simp; try with_reducible rfl
              try simp only [Act.put, List.getElem_toArray, List.getElem_cons_succ, List.getElem_cons_zero, List.setIfInBounds_toArray, List.set_cons_zero, List.set_cons_succ]
              refine wpAnyH_take (i := 5) (v := ?_) rfl (by kernel_rfl) (by kernel_rfl) (by kernel_rfl) (fun _ _ _ h => h) (Or.inl ⟨by rfl, ?hy⟩) (by assumption) ?_
              case hy => intro w hSw; (try dsimp only at hSw); go_simp; try with_reducible rfl
              try simp only [Act.put, List.getElem_toArray, List.getElem_cons_succ, List.getElem_cons_zero, List.setIfInBounds_toArray, List.set_cons_zero, List.set_cons_succ]
              refine wpAnyH_ready (rs := [6]) (by kernel_rfl) (by simp) (AllReadyH.cons rfl (fun K hK => ?_) AllReadyH.nil)
              go_simp
              have HD3 := Lib.hid (show Below w3.heap.size w3 w3.drew from (Below.refl _ _).drew)
              try (go_wp2_with fail)
              refine hK.out _ _ ?_ (fun hHeld => ?_)
              · exact HSB.out _ (Off.ofBelow (HD3.out.alloc HD3.out.size _))
              clear hK K
              try simp only [Act.put, List.getElem_toArray, List.getElem_cons_succ, List.getElem_cons_zero, List.setIfInBounds_toArray, List.set_cons_zero, List.set_cons_succ]
              refine wpAnyH_ready (rs := [7]) (by kernel_rfl) (by simp) (AllReadyH.cons rfl (fun K hK => ?_) AllReadyH.nil)
              go_simp
              refine (HADD.out _ HD3.out).mono ?_
              rintro e w5 ⟨rfl, hw5, ho5⟩
              have hoo : Off (fun i => i = p ∨ i = m) w3 w5 := (Off.ofBelow (S := fun i => i = p ∨ i = m) (HD3.out.alloc HD3.out.size _)).trans ho5 (fun _ _ h => h)
              have HW5 := Lib.hid hw5
              have HB5 := Lib.hid hoo
              have HO5 := Lib.hid (show Off (BOwn q p m) w w5 from ((off_q HO1.out).trans (Off.ofBelow (S := BOwn q p m) HBEL.out) (fun _ _ h => h)).trans (hoo.mono (S' := BOwn q p m) (fun i _ h => Or.inr h)) (fun _ _ h => h))
              have HAT5 := Lib.hid (show BrAt w5 q p m r (addS s at_ true) from ⟨(hoo.block q (by have := HH1.out.lt (i := q) (Or.inl rfl); rw [HS1.out] at this; rw [HSZ.out]; omega) (fun h => by rcases h with h | h; exact HH.out.qp h; exact HH.out.qm h)).trans ((HBEL.out.block q (HH1.out.lt (Or.inl rfl))).trans HH1.out.head), hw5, HH.out.qp, HH.out.qm, Int.le_refl _, HA0.out, HA1.out, Or.inl HST.out, HH.out.ok⟩)
              clear hw5 ho5 hoo HADD
              try (go_wp2_with fail)
              refine hK.out _ _ ?_ (fun hHeld => ?_)
              · exact HSB.out _ HB5.out
              clear hK K
              try simp only [Act.put, List.getElem_toArray, List.getElem_cons_succ, List.getElem_cons_zero, List.setIfInBounds_toArray, List.set_cons_zero, List.set_cons_succ]
              refine wpAnyH_done (by kernel_rfl) ?_ _
              refine NoPanic.normal ?_
              go_wp2_with (fail)
              have HS := Lib.hid (wSumN_any HW5.out at_ HLA.out)
              rw [Int.ediv_one] at HS
              have hCR : RightC (winC r.win 1 at_ (s.notes ++ newW at_ [endC true])) := winC_right HW5.out.right.1 at_
              have h7 := HAT5.out.cells.c7
              obtain ⟨C, hC⟩ : ∃ C, winC r.win 1 at_ (s.notes ++ newW at_ [endC true]) = C := ⟨_, rfl⟩
              rw [show newW at_ [(⟨0, 0, 1, 1, 0, 0⟩ : CntS)] = newW at_ [endC true] from rfl, hC] at HS
              rw [hC] at hCR
              have HCR := Lib.hid hCR
              have HCC := Lib.hid hC
              clear hC hCR
              obtain ⟨xp, xb, xd, xe, xr, xm⟩ := C
              unfold ctV at HS
              dsimp only at HS
              go_wp2_with (fail)
              refine HS.out.mono ?_
              rintro e w6 ⟨rfl, h6⟩
              have hb7 : Below w6.heap.size w6 (w6.alloc (ctO ⟨xp, xb, xd, xe, xr, xm⟩ 59)) := (Below.refl _ _).alloc (Nat.le_refl _) _
              have h7' := h6.trans (hb7.mono h6.size)
              have HAT7 := Lib.hid (HAT5.out.below h7')
              have HO7 := Lib.hid (HO5.out.trans (Off.ofBelow (S := BOwn q p m) h7') (fun _ _ h => h))
              have HOV := Lib.hid (bover_any HAT7.out ⟨xp, xb, xd, xe, xr, xm⟩ HCR.out)
              obtain ⟨⟨t0, t1, t2, t3, t4, t5⟩, tf⟩ := ct_cells (c := ⟨xp, xb, xd, xe, xr, xm⟩) ((get_allocW w6 (ctO ⟨xp, xb, xd, xe, xr, xm⟩ 59) w6.heap.size).trans (if_pos rfl))
              clear hb7 h7' h6 h7 HS HAT5 HO5 tf
              unfold ctO at HAT7 HO7 HOV t0 t1 t2 t3 t4 t5
              unfold ctV at HOV
              dsimp only at HAT7 HO7 HOV t0 t1 t2 t3 t4 t5
              obtain ⟨OV, hOV⟩ : ∃ OV, overB r ⟨xp, xb, xd, xe, xr, xm⟩ = OV := ⟨_, rfl⟩
              rw [hOV] at HOV
              have HOO := Lib.hid hOV
              clear hOV
              go_wp2_with (fail)
              refine HOV.out.mono ?_
              rintro e w8 ⟨rfl, h8⟩
              have HAT8 := Lib.hid (HAT7.out.below h8)
              have HO8 := Lib.hid (HO7.out.trans (Off.ofBelow (S := BOwn q p m) h8) (fun _ _ h => h))
              clear h8 HOV HAT7 HO7 t0 t1 t2 t3 t4 t5
              cases OV with
              | true =>
                have HOP := Lib.hid (bopen_any HAT8.out at_ HA0.out HA1.out)
                go_wp2_with (fail)
                refine HOP.out.mono ?_
                rintro e w9 ⟨rfl, hh9, ho9⟩
                have HH9 := Lib.hid hh9
                have HO9 := Lib.hid ho9
                clear hh9 ho9
                go_wp2_with (fail)
                go_ret
                exact ⟨by rw [HC.out]; rfl, p, m, by unfold bdoneS; rw [if_pos HC.out, if_neg (by simp), if_pos HST.out, HBB.out, HCC.out, HOO.out, if_pos rfl]; exact HH9.out, HO8.out.trans (off_q HO9.out) (fun _ _ h => h), Or.inl ⟨rfl, rfl⟩⟩
              | false =>
                go_wp2_with (fail)
                go_ret
                exact ⟨by rw [HC.out]; rfl, p, m, by unfold bdoneS; rw [if_pos HC.out, if_neg (by simp), if_pos HST.out, HBB.out, HCC.out, HOO.out, if_neg (by simp)]; exact HAT8.out, HO8.out, Or.inl ⟨rfl, rfl⟩⟩
            | false =>
              have hsz1 : (w.setCell ⟨q, 11, none⟩ (.int .i64 at_)).heap.size = w.heap.size := by simp [World.setCell]
              have HNEW := Lib.hid (show ((w.setCell ⟨q, 11, none⟩ (.int .i64 at_)).alloc (.cells #[.int .i64 0, .int .i64 0, .int .i64 1, .int .i64 0, .int .i64 0, .int .i64 0] 59)).heap[w.heap.size]? = some (.cells #[.int .i64 0, .int .i64 0, .int .i64 1, .int .i64 0, .int .i64 0, .int .i64 0] 59) by rw [← hsz1]; exact (get_allocW _ _ _).trans (if_pos rfl))
              have HBEL := Lib.hid (show Below (w.setCell ⟨q, 11, none⟩ (.int .i64 at_)).heap.size (w.setCell ⟨q, 11, none⟩ (.int .i64 at_)) ((w.setCell ⟨q, 11, none⟩ (.int .i64 at_)).alloc (.cells #[.int .i64 0, .int .i64 0, .int .i64 1, .int .i64 0, .int .i64 0, .int .i64 0] 59)) from (Below.refl _ _).alloc (Nat.le_refl _) _)
              have HSZ := Lib.hid (show ((w.setCell ⟨q, 11, none⟩ (.int .i64 at_)).alloc (.cells #[.int .i64 0, .int .i64 0, .int .i64 1, .int .i64 0, .int .i64 0, .int .i64 0] 59)).heap.size = w.heap.size + 1 by simp [World.setCell])
              have HS1 := Lib.hid hsz1
              clear hsz1
              go_enter Try.func9, Try.ntmps9
              go_wp2_with (fail)
              refine HL.out.mono ?_
              rintro e wq ⟨rfl, hq⟩
              have hq := hq.symm
              subst hq
              go_wp2_with (fail)
              refine HBAD.out.mono ?_
              rintro e wq ⟨rfl, hq⟩
              subst hq
              go_wp2_with (fail)
              obtain ⟨w3, hw3⟩ : ∃ w3, ((w.setCell ⟨q, 11, none⟩ (.int .i64 at_)).alloc (.cells #[.int .i64 0, .int .i64 0, .int .i64 1, .int .i64 0, .int .i64 0, .int .i64 0] 59)) = w3 := ⟨_, rfl⟩
              rw [hw3] at HNEW HBEL HSZ ⊢
              clear hw3
              obtain ⟨w1, hw1⟩ : ∃ w1, (w.setCell ⟨q, 11, none⟩ (.int .i64 at_)) = w1 := ⟨_, rfl⟩
              rw [hw1] at HBEL HS1 HH1 HO1 d7
              clear hw1
              have HW3 := Lib.hid (HH1.out.win.below HBEL.out)
              have HP3 := Lib.hid ((HBEL.out.cell (p := ⟨q, 7, none⟩) (HH1.out.lt (Or.inl rfl))).trans d7)
              obtain ⟨⟨z0, z1, z2, z3, z4, z5⟩, zf⟩ := ct_cells (c := ⟨0, 0, 1, 0, 0, 0⟩) HNEW.out
              dsimp only at z0 z1 z2 z3 z4 z5
              have HSB := Lib.hid (show ∀ wx, Off (fun i => i = p ∨ i = m) w3 wx → (fun wx => Off (fun i => i = p ∨ i = m) w3 wx ∧ wx.cell? ⟨q, 7, none⟩ = some (.pointer (some ⟨p, 0, none⟩)) ∧ wx.cell? ⟨w.heap.size, 0, none⟩ = some (.int .i64 0) ∧ wx.cell? ⟨w.heap.size, 1, none⟩ = some (.int .i64 0) ∧ wx.cell? ⟨w.heap.size, 2, none⟩ = some (.int .i64 1) ∧ wx.cell? ⟨w.heap.size, 3, none⟩ = some (.int .i64 0) ∧ wx.cell? ⟨w.heap.size, 4, none⟩ = some (.int .i64 0) ∧ wx.cell? ⟨w.heap.size, 5, none⟩ = some (.int .i64 0)) wx from fun wx hb => by
                have hlp := HH1.out.lt (i := p) (Or.inr (Or.inl rfl))
                have hlm := HH1.out.lt (i := m) (Or.inr (Or.inr rfl))
                have hlq := HH1.out.lt (i := q) (Or.inl rfl)
                rw [HS1.out] at hlp hlm hlq
                have hz := HSZ.out
                obtain ⟨⟨y0, y1, y2, y3, y4, y5⟩, yf⟩ := ct_cells (c := ⟨0, 0, 1, 0, 0, 0⟩) ((hb.block w.heap.size (by omega) (by omega)).trans HNEW.out)
                exact ⟨hb, (World.cell?_of_block (a := ⟨q, 7, none⟩) (hb.block q (by omega) (fun h => by rcases h with h | h; exact HH.out.qp h; exact HH.out.qm h))).trans HP3.out, y0, y1, y2, y3, y4, y5⟩)
              have HADD := Lib.hid (fun (wx : World) (hb : Below w3.heap.size w3 wx) => wAddN_any ((HW3.out.below hb).below ((Below.refl wx.heap.size wx).alloc (Nat.le_refl _) (ctO (endC false) 59))) at_ HWL.out (some ⟨wx.heap.size, 0, none⟩) 1 1 [endC false] rfl (by omega) (fun e => by cases e) (cts_one (w := wx) (endC false)) (fun c hc => by obtain rfl := List.mem_singleton.1 hc; exact endC_right _) (fun g off e => by
                cases e
                have h1 := HW3.out.lt
                have h2 := hb.size
                omega))
              unfold ctO endC at HADD
              simp only [if_true, Bool.false_eq_true, if_false] at HADD
              clear z0 z1 z2 z3 z4 z5 zf d7 d8 c8 c11
              refine wp_region_noPanic ?_
              refine wp_region_held_drew (S := fun wx => Off (fun i => i = p ∨ i = m) w3 wx ∧ wx.cell? ⟨q, 7, none⟩ = some (.pointer (some ⟨p, 0, none⟩)) ∧ wx.cell? ⟨w.heap.size, 0, none⟩ = some (.int .i64 0) ∧ wx.cell? ⟨w.heap.size, 1, none⟩ = some (.int .i64 0) ∧ wx.cell? ⟨w.heap.size, 2, none⟩ = some (.int .i64 1) ∧ wx.cell? ⟨w.heap.size, 3, none⟩ = some (.int .i64 0) ∧ wx.cell? ⟨w.heap.size, 4, none⟩ = some (.int .i64 0) ∧ wx.cell? ⟨w.heap.size, 5, none⟩ = some (.int .i64 0)) (by kernel_rfl) ?_ (fun hHeld => ?_)
              · exact HSB.out _ (Off.ofBelow (Below.refl _ _).drew)
              refine wpAnyH_take (i := 0) (v := ?_) rfl (by kernel_rfl) (by kernel_rfl) (by kernel_rfl) (fun _ _ _ h => h) (Or.inl ⟨by rfl, ?hy⟩) (by assumption) ?_
              case hy => intro w hSw; (try dsimp only at hSw); go_simp; try with_reducible rfl
              try simp only [Act.put, List.getElem_toArray, List.getElem_cons_succ, List.getElem_cons_zero, List.setIfInBounds_toArray, List.set_cons_zero, List.set_cons_succ]
              refine wpAnyH_take (i := 1) (v := ?_) rfl (by kernel_rfl) (by kernel_rfl) (by kernel_rfl) (fun _ _ _ h => h) (Or.inl ⟨by rfl, ?hy⟩) (by assumption) ?_
              case hy => intro w hSw; (try dsimp only at hSw); go_simp; try with_reducible rfl
              try simp only [Act.put, List.getElem_toArray, List.getElem_cons_succ, List.getElem_cons_zero, List.setIfInBounds_toArray, List.set_cons_zero, List.set_cons_succ]
              refine wpAnyH_take (i := 2) (v := ?_) rfl (by kernel_rfl) (by kernel_rfl) (by kernel_rfl) (fun _ _ _ h => h) (Or.inl ⟨by rfl, ?hy⟩) (by assumption) ?_
              case hy => intro w hSw; (try dsimp only at hSw); go_simp; try with_reducible rfl
              try simp only [Act.put, List.getElem_toArray, List.getElem_cons_succ, List.getElem_cons_zero, List.setIfInBounds_toArray, List.set_cons_zero, List.set_cons_succ]
              refine wpAnyH_take (i := 3) (v := ?_) rfl (by kernel_rfl) (by kernel_rfl) (by kernel_rfl) (fun _ _ _ h => h) (Or.inl ⟨by rfl, ?hy⟩) (by assumption) ?_
              case hy => intro w hSw; (try dsimp only at hSw); go_simp; try with_reducible rfl
              try simp only [Act.put, List.getElem_toArray, List.getElem_cons_succ, List.getElem_cons_zero, List.setIfInBounds_toArray, List.set_cons_zero, List.set_cons_succ]
              refine wpAnyH_take (i := 4) (v := ?_) rfl (by kernel_rfl) (by kernel_rfl) (by kernel_rfl) (fun _ _ _ h => h) (Or.inl ⟨by rfl, ?hy⟩) (by assumption) ?_
              case hy => intro w hSw; (try dsimp only at hSw); go_simp; try with_reducible rfl
              try simp only [Act.put, List.getElem_toArray, List.getElem_cons_succ, List.getElem_cons_zero, List.setIfInBounds_toArray, List.set_cons_zero, List.set_cons_succ]
              refine wpAnyH_take (i := 5) (v := ?_) rfl (by kernel_rfl) (by kernel_rfl) (by kernel_rfl) (fun _ _ _ h => h) (Or.inl ⟨by rfl, ?hy⟩) (by assumption) ?_
              case hy => intro w hSw; (try dsimp only at hSw); go_simp; try with_reducible rfl
              try simp only [Act.put, List.getElem_toArray, List.getElem_cons_succ, List.getElem_cons_zero, List.setIfInBounds_toArray, List.set_cons_zero, List.set_cons_succ]
              refine wpAnyH_ready (rs := [6]) (by kernel_rfl) (by simp) (AllReadyH.cons rfl (fun K hK => ?_) AllReadyH.nil)
              go_simp
              have HD3 := Lib.hid (show Below w3.heap.size w3 w3.drew from (Below.refl _ _).drew)
              try (go_wp2_with fail)
              refine hK.out _ _ ?_ (fun hHeld => ?_)
              · exact HSB.out _ (Off.ofBelow (HD3.out.alloc HD3.out.size _))
              clear hK K
              try simp only [Act.put, List.getElem_toArray, List.getElem_cons_succ, List.getElem_cons_zero, List.setIfInBounds_toArray, List.set_cons_zero, List.set_cons_succ]
              refine wpAnyH_ready (rs := [7]) (by kernel_rfl) (by simp) (AllReadyH.cons rfl (fun K hK => ?_) AllReadyH.nil)
              go_simp
              refine (HADD.out _ HD3.out).mono ?_
              rintro e w5 ⟨rfl, hw5, ho5⟩
              have hoo : Off (fun i => i = p ∨ i = m) w3 w5 := (Off.ofBelow (S := fun i => i = p ∨ i = m) (HD3.out.alloc HD3.out.size _)).trans ho5 (fun _ _ h => h)
              have HW5 := Lib.hid hw5
              have HB5 := Lib.hid hoo
              have HO5 := Lib.hid (show Off (BOwn q p m) w w5 from ((off_q HO1.out).trans (Off.ofBelow (S := BOwn q p m) HBEL.out) (fun _ _ h => h)).trans (hoo.mono (S' := BOwn q p m) (fun i _ h => Or.inr h)) (fun _ _ h => h))
              have HAT5 := Lib.hid (show BrAt w5 q p m r (addS s at_ false) from ⟨(hoo.block q (by have := HH1.out.lt (i := q) (Or.inl rfl); rw [HS1.out] at this; rw [HSZ.out]; omega) (fun h => by rcases h with h | h; exact HH.out.qp h; exact HH.out.qm h)).trans ((HBEL.out.block q (HH1.out.lt (Or.inl rfl))).trans HH1.out.head), hw5, HH.out.qp, HH.out.qm, Int.le_refl _, HA0.out, HA1.out, Or.inl HST.out, HH.out.ok⟩)
              clear hw5 ho5 hoo HADD
              try (go_wp2_with fail)
              refine hK.out _ _ ?_ (fun hHeld => ?_)
              · exact HSB.out _ HB5.out
              clear hK K
              try simp only [Act.put, List.getElem_toArray, List.getElem_cons_succ, List.getElem_cons_zero, List.setIfInBounds_toArray, List.set_cons_zero, List.set_cons_succ]
              refine wpAnyH_done (by kernel_rfl) ?_ _
              refine NoPanic.normal ?_
              go_wp2_with (fail)
              have HS := Lib.hid (wSumN_any HW5.out at_ HLA.out)
              rw [Int.ediv_one] at HS
              have hCR : RightC (winC r.win 1 at_ (s.notes ++ newW at_ [endC false])) := winC_right HW5.out.right.1 at_
              have h7 := HAT5.out.cells.c7
              obtain ⟨C, hC⟩ : ∃ C, winC r.win 1 at_ (s.notes ++ newW at_ [endC false]) = C := ⟨_, rfl⟩
              rw [show newW at_ [(⟨0, 0, 1, 0, 0, 0⟩ : CntS)] = newW at_ [endC false] from rfl, hC] at HS
              rw [hC] at hCR
              have HCR := Lib.hid hCR
              have HCC := Lib.hid hC
              clear hC hCR
              obtain ⟨xp, xb, xd, xe, xr, xm⟩ := C
              unfold ctV at HS
              dsimp only at HS
              go_wp2_with (fail)
              refine HS.out.mono ?_
              rintro e w6 ⟨rfl, h6⟩
              have hb7 : Below w6.heap.size w6 (w6.alloc (ctO ⟨xp, xb, xd, xe, xr, xm⟩ 59)) := (Below.refl _ _).alloc (Nat.le_refl _) _
              have h7' := h6.trans (hb7.mono h6.size)
              have HAT7 := Lib.hid (HAT5.out.below h7')
              have HO7 := Lib.hid (HO5.out.trans (Off.ofBelow (S := BOwn q p m) h7') (fun _ _ h => h))
              have HOV := Lib.hid (bover_any HAT7.out ⟨xp, xb, xd, xe, xr, xm⟩ HCR.out)
              obtain ⟨⟨t0, t1, t2, t3, t4, t5⟩, tf⟩ := ct_cells (c := ⟨xp, xb, xd, xe, xr, xm⟩) ((get_allocW w6 (ctO ⟨xp, xb, xd, xe, xr, xm⟩ 59) w6.heap.size).trans (if_pos rfl))
              clear hb7 h7' h6 h7 HS HAT5 HO5 tf
              unfold ctO at HAT7 HO7 HOV t0 t1 t2 t3 t4 t5
              unfold ctV at HOV
              dsimp only at HAT7 HO7 HOV t0 t1 t2 t3 t4 t5
              obtain ⟨OV, hOV⟩ : ∃ OV, overB r ⟨xp, xb, xd, xe, xr, xm⟩ = OV := ⟨_, rfl⟩
              rw [hOV] at HOV
              have HOO := Lib.hid hOV
              clear hOV
              go_wp2_with (fail)
              refine HOV.out.mono ?_
              rintro e w8 ⟨rfl, h8⟩
              have HAT8 := Lib.hid (HAT7.out.below h8)
              have HO8 := Lib.hid (HO7.out.trans (Off.ofBelow (S := BOwn q p m) h8) (fun _ _ h => h))
              clear h8 HOV HAT7 HO7 t0 t1 t2 t3 t4 t5
              cases OV with
              | true =>
                have HOP := Lib.hid (bopen_any HAT8.out at_ HA0.out HA1.out)
                go_wp2_with (fail)
                refine HOP.out.mono ?_
                rintro e w9 ⟨rfl, hh9, ho9⟩
                have HH9 := Lib.hid hh9
                have HO9 := Lib.hid ho9
                clear hh9 ho9
                go_wp2_with (fail)
                go_ret
                exact ⟨by rw [HC.out]; rfl, p, m, by unfold bdoneS; rw [if_pos HC.out, if_neg (by simp), if_pos HST.out, HBB.out, HCC.out, HOO.out, if_pos rfl]; exact HH9.out, HO8.out.trans (off_q HO9.out) (fun _ _ h => h), Or.inl ⟨rfl, rfl⟩⟩
              | false =>
                go_wp2_with (fail)
                go_ret
                exact ⟨by rw [HC.out]; rfl, p, m, by unfold bdoneS; rw [if_pos HC.out, if_neg (by simp), if_pos HST.out, HBB.out, HCC.out, HOO.out, if_neg (by simp)]; exact HAT8.out, HO8.out, Or.inl ⟨rfl, rfl⟩⟩
          · have hne : (s.st == 1) = false := by simpa using hst
            have HST := Lib.hid hst
            clear h1 h hE hB hst a0 a1 a2
            generalize hT : s.st = T at c8 d8 hne
            clear hT
            go_enter Try.func9, Try.ntmps9
            go_wp2_with (fail)
            refine HL.out.mono ?_
            rintro e wq ⟨rfl, hq⟩
            have hq := hq.symm
            subst hq
            go_wp2_with (fail)
            refine HBAD.out.mono ?_
            rintro e wq ⟨rfl, hq⟩
            subst hq
            go_wp2_with (fail)
            go_ret
            exact ⟨by rw [HC.out]; rfl, p, m, by unfold bdoneS; rw [if_pos HC.out, if_neg (by simp), if_neg HST.out]; exact HH1.out, off_q HO1.out, Or.inl ⟨rfl, rfl⟩⟩
  · have HC := Lib.hid (show bdoneE s at_ rt probe = 2 by unfold bdoneE; rw [if_pos (Or.inl hE)])
    rw [hE] at HL
    clear hE h
    go_enter Try.func9, Try.ntmps9
    go_wp2_with (fail)
    refine HL.out.mono ?_
    rintro e wq ⟨rfl, hq⟩
    have hq := hq.symm
    subst hq
    go_wp2_with (fail)
    go_ret
    exact DoneB.no HH.out HC.out (by decide) rfl
  · by_cases hr0 : rt < 0
    · have HC := Lib.hid (show bdoneE s at_ rt probe = 2 by unfold bdoneE; rw [if_pos (Or.inr (isT_lo hr0))])
      rw [hE] at HL
      clear hE h
      go_enter Try.func9, Try.ntmps9
      go_wp2_with (fail)
      refine HL.out.mono ?_
      rintro e wq ⟨rfl, hq⟩
      have hq := hq.symm
      subst hq
      go_wp2_with (fail)
      go_ret
      exact DoneB.no HH.out HC.out (by decide) rfl
    · by_cases hr1 : 1152921504606846976 < rt
      · have HC := Lib.hid (show bdoneE s at_ rt probe = 2 by unfold bdoneE; rw [if_pos (Or.inr (isT_hi hr1))])
        rw [hE] at HL
        clear hE h
        go_enter Try.func9, Try.ntmps9
        go_wp2_with (fail)
        refine HL.out.mono ?_
        rintro e wq ⟨rfl, hq⟩
        have hq := hq.symm
        subst hq
        go_wp2_with (fail)
        go_ret
        exact DoneB.no HH.out HC.out (by decide) rfl
      · have HC := Lib.hid (show bdoneE s at_ rt probe = 7 by unfold bdoneE; rw [if_neg (by rw [hE, isT_ok hr0 hr1]; simp), if_pos (by rw [hE]; decide)]; exact hE)
        rw [hE] at HL
        clear hE h
        go_enter Try.func9, Try.ntmps9
        go_wp2_with (fail)
        refine HL.out.mono ?_
        rintro e wq ⟨rfl, hq⟩
        have hq := hq.symm
        subst hq
        go_wp2_with (fail)
        go_ret
        exact DoneB.no HH.out HC.out (by decide) rfl
end Go.Proofs.Yteghiappanpogaa
