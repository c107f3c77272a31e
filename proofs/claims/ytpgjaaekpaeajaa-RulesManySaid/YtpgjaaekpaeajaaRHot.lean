/- The reference's rules: what is wrong with a rule of hot parameters. -/
import Derived.Test.YtpgjaaekpaeajaaHotR
import Derived.Test.YtpgjaaekpaeajaaRRef
namespace Go.Proofs.Ytpgjaaekpaeajaa
open Go.RowKit
set_option linter.unusedVariables false
set_option linter.unusedSimpArgs false

theorem inR_Z (n lo hi : Int) : inR n lo hi = inZ n lo hi := rfl
theorem hotE_name {h : HotS} (e : nameB h.res = false) : hotE h = 10 := by
  unfold hotE lookE; rw [show namedB h.res [] = nameB h.res by simp [namedB], e]; rfl
theorem hotE_form {h : HotS} (e : nameB h.res = true) (h2 : (hot1B h && (hot2B h && hot3B h)) = false) : hotE h = 32 := by
  unfold hotE lookE; rw [show namedB h.res [] = nameB h.res by simp [namedB], e, h2]; rfl
theorem hotE_ok {h : HotS} (e : nameB h.res = true) (h2 : (hot1B h && (hot2B h && hot3B h)) = true) : hotE h = 0 := by
  unfold hotE lookE; rw [show namedB h.res [] = nameB h.res by simp [namedB], e, h2]; rfl
theorem HotBox.below {w w' : World} {b : Nat} {h : HotS} (x : HotBox w b h) (hl : b < w.heap.size) (hb : Below w.heap.size w w') : HotBox w' b h := by
  have g : ∀ o v, w.cell? ⟨b, o, none⟩ = some v → w'.cell? ⟨b, o, none⟩ = some v := fun o v e => (hb.cell (p := ⟨b, o, none⟩) hl).trans e
  exact ⟨g _ _ x.c0, g _ _ x.c1, g _ _ x.c2, g _ _ x.c3, g _ _ x.c4⟩
theorem any_next {xs : List ItemS} {p : ItemS → Bool} {k : Nat} (hk : k < xs.length) (h : (xs.take k).any p = false) : (xs.take (k + 1)).any p = p (xs[k]'hk) := by
  rw [List.take_add_one, List.getElem?_eq_getElem hk, Option.toList_some, List.any_append, h]; simp
theorem any_take_yes {xs : List ItemS} {p : ItemS → Bool} {k : Nat} (hk : k < xs.length) (h : p (xs[k]'hk) = true) : xs.any p = true := List.any_eq_true.2 ⟨_, List.getElem_mem hk, h⟩

set_option maxHeartbeats 12800000 in
set_option maxRecDepth 100000 in
theorem r7hot_any {w : World} (h : HotS) (ok : HotOk w h) : Calls Try.prog 59 #[h.v] w fun e w' => e = .returned (.int .i64 (hotE h)) ∧ Below w.heap.size w w' := by
  have hb24 := ok.b
  have HL := Lib.hid ok.l
  have HAT := Lib.hid ok.at_
  have HNM := Lib.hid (fun w => riname_any h.res ok.z w)
  have HI1 := Lib.hid (fun w => rinZ h.idx 0 7 w)
  have HI2 := Lib.hid (fun w => rinZ h.cnt 0 1099511627776 w)
  have HI3 := Lib.hid (fun w => rinZ h.secs 1 60 w)
  have HEN := Lib.hid (fun e => hotE_name (h := h) e)
  have HEF := Lib.hid (fun e e2 => hotE_form (h := h) e e2)
  have HEO := Lib.hid (fun e e2 => hotE_ok (h := h) e e2)
  have HB := Lib.hid (show Below w.heap.size w (w.alloc (hotO h)) from (Below.refl _ _).alloc (Nat.le_refl _) _)
  have HX := Lib.hid (HotBox.of (show (w.alloc (hotO h)).heap[w.heap.size]? = some (hotO h) by rw [get_allocB, if_pos rfl]))
  have hZ : w.heap.size < (w.alloc (hotO h)).heap.size := by simp
  have HD1 := Lib.hid (show hot1B h = (inZ h.idx 0 7 && inZ h.cnt 0 1099511627776) from rfl)
  have HD2 := Lib.hid (show hot2B h = ((inZ h.secs 1 60 && decide ((h.items.length : Int) ≤ 32)) && !twiceB (h.items.map (·.val))) from rfl)
  have HD3 := Lib.hid (show hot3B h = !h.items.any itemBad from rfl)
  generalize hotE h = HE at *
  generalize hot1B h = B1 at *
  generalize hot2B h = B2 at *
  generalize hot3B h = B3 at *
  unfold hotO at HB HX hZ
  unfold HotS.v
  clear ok
  obtain ⟨g, hg⟩ : ∃ g, g = h := ⟨h, rfl⟩
  obtain ⟨res, idx, cnt, secs, ia, il, ic, items⟩ := h
  subst hg
  dsimp only at *
  generalize nameB res = A at *
  generalize inZ idx 0 7 = C1 at *
  generalize inZ cnt 0 1099511627776 = C2 at *
  generalize inZ secs 1 60 = C3 at *
  go_enter Try.func59, Try.ntmps59
  go_wp2_with (fail)
  generalize w.alloc _ = W at *
  refine (HNM.out _).mono ?_
  rintro e wq ⟨rfl, hq⟩
  have hq := hq.symm; subst hq
  obtain ⟨c0, c1, c2, c3, c4⟩ := HX.out
  cases A
  · have HF := Lib.hid (HEN.out rfl)
    go_wp2_with (fail)
    go_ret
    exact ⟨by rw [HF.out]; rfl, HB.out⟩
  · go_wp2_with (fail)
    refine (HI1.out _).mono ?_
    rintro e wq ⟨rfl, hq⟩
    have hq := hq.symm; subst hq
    cases C1
    · have HF := Lib.hid (HEF.out (by first | rfl | trivial) (by rw [HD1.out]; rfl))
      go_wp2_with (fail)
      go_ret
      exact ⟨by rw [HF.out]; rfl, HB.out⟩
    · go_wp2_with (fail)
      refine (HI2.out _).mono ?_
      rintro e wq ⟨rfl, hq⟩
      have hq := hq.symm; subst hq
      cases C2
      · have HF := Lib.hid (HEF.out (by first | rfl | trivial) (by rw [HD1.out]; rfl))
        go_wp2_with (fail)
        go_ret
        exact ⟨by rw [HF.out]; rfl, HB.out⟩
      · go_wp2_with (fail)
        refine (HI3.out _).mono ?_
        rintro e wq ⟨rfl, hq⟩
        have hq := hq.symm; subst hq
        cases C3
        · have HF := Lib.hid (HEF.out (by first | rfl | trivial) (by rw [HD1.out, HD2.out]; simp))
          go_wp2_with (fail)
          go_ret
          exact ⟨by rw [HF.out]; rfl, HB.out⟩
        · by_cases h32 : (il : Int) ≤ 32
          · have hgt : ¬ (32 : Int) < il := by omega
            have HF2 := Lib.hid (show B1 = true ∧ B2 = !twiceB (items.map (·.val)) from ⟨HD1.out, by rw [HD2.out, HL.out, decide_eq_true h32]; rfl⟩)
            go_wp2_with (fail)
            go_loopw [3, 4] (fun i _ wr => ∃ k : Nat, k ≤ il ∧ i = .int .i64 k ∧ Hid ((List.range k).any (twiceAt (items.map (·.val))) = false) ∧ Hid ((items.take k).any itemBad = false) ∧ Hid (Below W.heap.size W wr)) (fun i _ _ => il - (intOf i).toNat)
            case atStart => exact ⟨0, Nat.zero_le _, rfl, Lib.hid rfl, Lib.hid rfl, Lib.hid (Below.refl _ _)⟩
            case round =>
              rename World => wv
              obtain ⟨i, hi, rfl, HA, HG, HV⟩ := hrel
              have c4 := (HX.out.below hZ HV.out).c4
              dsimp only at c4
              by_cases hlt2 : i < il
              · have hil : i < items.length := by rw [HL.out]; exact hlt2
                have hvl : i < (items.map (·.val)).length := by simpa using hil
                have hbw : Below w.heap.size w wv := HB.out.trans (HV.out.mono HB.out.size)
                obtain ⟨b, off, hab, hbl, d0, d1⟩ := items_get (HAT.out.below (Nat.le_refl _) hbw) hil
                have i0 : (0 : Int) ≤ i := by omega
                have i1 : (i : Int) < il := by omega
                have HIT := Lib.hid (fun (q : Nat) (hq : q < items.length) => items_get (HAT.out.below (Nat.le_refl _) hbw) hq)
                have HST := Lib.hid (range_step HA.out)
                have HTY := Lib.hid (twice_yes (ss := items.map (·.val)) hvl)
                have HGN := Lib.hid (any_next hil HG.out)
                have HGY := Lib.hid (fun e => any_take_yes (p := itemBad) hil e)
                have hgx : (items.map (·.val)).getD i ⟨#[]⟩ = (items[i]'hil).val := by simp [List.getD, hil]
                have HTD := Lib.hid (show twiceAt (items.map (·.val)) i = Lib.containsS ((items.map (·.val)).take i) (items[i]'hil).val by unfold twiceAt; rw [hgx])
                have HBD := Lib.hid (show itemBad (items[i]'hil) = (decide (64 < ((items[i]'hil).val.size : Int)) || !inZ (items[i]'hil).cnt 0 1099511627776) from rfl)
                have HIC := Lib.hid (fun w => rinZ (items[i]'hil).cnt 0 1099511627776 w)
                clear hgx
                generalize itemBad (items[i]'hil) = BD at *
                generalize (items[i]'hil).val = X at *
                generalize (items[i]'hil).cnt = CN at *
                generalize inZ CN 0 1099511627776 = IC at *
                subst hab
                by_cases h64 : (64 : Int) < X.size
                · have HF := Lib.hid (HEF.out (by first | rfl | trivial) (by rw [HD3.out, HGY.out (by rw [HBD.out, decide_eq_true h64]; rfl)]; simp))
                  go_wp2_with (fail)
                  go_ret
                  exact ⟨by rw [HF.out]; rfl, hbw⟩
                · have HBD2 := Lib.hid (HBD.out.trans (by rw [decide_eq_false h64, Bool.false_or]))
                  go_wp2_with (fail)
                  refine (HIC.out _).mono ?_
                  rintro e wq ⟨rfl, hq⟩
                  have hq := hq.symm; subst hq
                  cases IC
                  · have HF := Lib.hid (HEF.out (by first | rfl | trivial) (by rw [HD3.out, HGY.out HBD2.out]; simp))
                    go_wp2_with (fail)
                    go_ret
                    exact ⟨by rw [HF.out]; rfl, hbw⟩
                  · have HG2 : Hid ((items.take (i + 1)).any itemBad = false) := Lib.hid (HGN.out.trans HBD2.out)
                    go_wp2_with (fail)
                    go_loopw [4] (fun q wr => ∃ k : Nat, k ≤ i ∧ q = .int .i64 k ∧ Hid (Lib.containsS ((items.map (·.val)).take k) X = false) ∧ Hid (Below wv.heap.size wv wr)) (fun q _ => i - (intOf q).toNat)
                    case atStart => exact ⟨0, Nat.zero_le _, rfl, Lib.hid (containsS_nil X), Lib.hid (Below.refl _ _)⟩
                    case round =>
                      rename World => wu
                      obtain ⟨q, hq, rfl, HQ, HU⟩ := hrel
                      have hbu : Below W.heap.size W wu := HV.out.trans (HU.out.mono HV.out.size)
                      have c4 := (HX.out.below hZ hbu).c4
                      dsimp only at c4
                      have dX := (HU.out.cell (p := ⟨b, off + i * 2, none⟩) hbl).trans d0
                      by_cases hlt3 : q < i
                      · have hql : q < items.length := by omega
                        have hqv : q < (items.map (·.val)).length := by simpa using hql
                        have q0 : (0 : Int) ≤ q := by omega
                        have q1 : (q : Int) < il := by omega
                        have q2 : (q : Int) < i := by omega
                        obtain ⟨b', off', hab', _, dq0, _⟩ := HIT.out q hql
                        injection hab' with e1; injection e1 with e1 e2
                        subst e1 e2
                        have dq := (HU.out.cell (p := ⟨b, off + q * 2, none⟩) hbl).trans dq0
                        have hsn := contains_snoc hqv HQ.out
                        have hgy : (items.map (·.val)).getD q ⟨#[]⟩ = (items[q]'hql).val := by simp [List.getD, hql]
                        rw [hgy, ← toList_decG] at hsn
                        clear hgy dq0
                        generalize (items[q]'hql).val = Y at *
                        cases he : (Y.toList == X.toList) with
                        | true =>
                          rw [he] at hsn
                          have HF := Lib.hid (HEF.out (by first | rfl | trivial) (by rw [HF2.out.2, HTY.out (by rw [HTD.out]; exact contains_more (by omega) hsn)]; simp))
                          clear hsn
                          go_wp2_with (fail)
                          go_quiet (fail)
                          go_wp2_with (fail)
                          go_ret
                          exact ⟨by rw [HF.out]; rfl, hbw.trans ((below_drewG HU.out _).mono hbw.size)⟩
                        | false =>
                          rw [he] at hsn
                          have HS := Lib.hid hsn
                          clear hsn
                          go_wp2_with (fail)
                          go_quiet (fail)
                          go_wp2_with (fail)
                          exact ⟨⟨q + 1, by omega, by go_num, HS, Lib.hid (below_drewG HU.out _)⟩, by first | (simp [intOf]; done) | (simp [intOf]; omega)⟩
                      · have q2 : ¬ (q : Int) < i := by omega
                        have e1 : q = i := by omega
                        have HS : Hid ((List.range (i + 1)).any (twiceAt (items.map (·.val))) = false) := Lib.hid (by
                          rw [HST.out, HTD.out, ← e1]; exact HQ.out)
                        clear e1
                        go_wp2_with (fail)
                        exact ⟨⟨i + 1, by omega, by go_num, HS, HG2, Lib.hid hbu⟩, by first | (simp [intOf]; done) | (simp [intOf]; omega)⟩
              · have i1 : ¬ (i : Int) < il := by omega
                have HF := Lib.hid (HEO.out (by first | rfl | trivial) (by
                  have h1 := HA.out
                  rw [show i = (items.map (·.val)).length by rw [List.length_map, HL.out]; omega] at h1
                  have h2 := HG.out
                  rw [List.take_of_length_le (by rw [HL.out]; omega)] at h2
                  rw [HF2.out.1, HF2.out.2, HD3.out, h2, show twiceB (items.map (·.val)) = false from h1]; rfl))
                clear HA HG
                go_wp2_with (fail)
                go_ret
                exact ⟨by rw [HF.out]; rfl, HB.out.trans (HV.out.mono HB.out.size)⟩
          · have hgt : (32 : Int) < il := by omega
            have HF := Lib.hid (HEF.out (by first | rfl | trivial) (by rw [HD2.out, HL.out, decide_eq_false h32]; simp))
            go_wp2_with (fail)
            go_ret
            exact ⟨by rw [HF.out]; rfl, HB.out⟩
end Go.Proofs.Ytpgjaaekpaeajaa
