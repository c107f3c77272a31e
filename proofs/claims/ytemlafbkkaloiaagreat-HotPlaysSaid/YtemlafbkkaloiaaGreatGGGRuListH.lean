import Derived.Test.YtemlafbkkaloiaaGreatGS0
import Derived.Test.YtemlafbkkaloiaaGreatGRuList
import Derived.Test.YtemlafbkkaloiaaGreatGBrA
import Derived.Test.YtemlafbkkaloiaaGreatGGHotR
import Derived.Test.YtemlafbkkaloiaaGreatGGGLay2
import Derived.Test.YtemlafbkkaloiaaGreatGGGR3A
import Derived.Test.YtemlafbkkaloiaaGreatGGGLruV
import Derived.Test.YtemlafbkkaloiaaGreatGGGRsA
set_option linter.unusedVariables false
set_option linter.unusedSimpArgs false
namespace Go.Proofs.YtemlafbkkaloiaaGreat
open Go.RowKit
theorem toList_decG (a b : ByteArray) : (a.toList == b.toList) = decide (a = b) := by
  by_cases h : a = b
  · simp [h]
  · have : a.toList ≠ b.toList := fun e => h (by
      rw [ByteArray.toList_eq, ByteArray.toList_eq] at e
      rcases a with ⟨⟨l⟩⟩; rcases b with ⟨⟨l'⟩⟩; simpa using e)
    simp [h, this]
theorem nameB_no {s : ByteArray} (h : ¬ ((1 : Int) ≤ s.size ∧ (s.size : Int) ≤ 64)) : nameB s = false := by
  unfold nameB
  have : (decide ((1 : Int) ≤ (s.size : Int)) && decide ((s.size : Int) ≤ 64)) = false := by
    rw [Bool.and_eq_false_iff, decide_eq_false_iff_not, decide_eq_false_iff_not]; omega
  rw [this, Bool.and_false]
theorem nameB_byte {s : ByteArray} {k : Nat} (hk : k < s.size) (h : byteB s[k] = false) : nameB s = false := by
  unfold nameB
  have : s.data.toList.all byteB = false := by
    rw [List.all_eq_false]
    exact ⟨s[k], by
      have : s[k] = s.data.toList[k]'(by simpa using hk) := rfl
      rw [this]; exact List.getElem_mem _, by rw [h]; simp⟩
  rw [this, Bool.false_and]
theorem take_all {s : ByteArray} {k : Nat} (hk : k < s.size) (h : (s.data.toList.take k).all byteB = true) (hb : byteB s[k] = true) : (s.data.toList.take (k + 1)).all byteB = true := by
  have hl : k < s.data.toList.length := by simpa using hk
  rw [List.take_succ_eq_append_getElem hl, List.all_append, h]
  simp only [List.all_cons, List.all_nil, Bool.and_true, Bool.true_and]
  exact hb
set_option maxHeartbeats 1600000 in
theorem riname_any (s : ByteArray) (hs : s.size ≤ maxLen) (w : World) : Calls Tryz.prog 60 #[.string s] w fun e w' => e = .returned (.bool (nameB s)) ∧ w' = w := by
  have hsz : (s.size : Int) ≤ 9223372036854775807 := by simp only [maxLen] at hs; omega
  by_cases h1 : (s.size : Int) < 1
  · rw [nameB_no (by omega)]
    go_enter Tryz.func60, Tryz.ntmps60
    go_wp2_with (fail)
    go_ret
    exact ⟨rfl, rfl⟩
  · by_cases h2 : (64 : Int) < s.size
    · rw [nameB_no (by omega)]
      go_enter Tryz.func60, Tryz.ntmps60
      go_wp2_with (fail)
      go_ret
      exact ⟨rfl, rfl⟩
    · have HNO := Lib.hid (fun k (hk : k < s.size) h => nameB_byte hk h)
      have HYES := Lib.hid (show s.data.toList.all byteB = true → nameB s = true from fun h => by
        unfold nameB
        rw [h, decide_eq_true (show (1 : Int) ≤ s.size by omega), decide_eq_true (show (s.size : Int) ≤ 64 by omega)]; rfl)
      go_enter Tryz.func60, Tryz.ntmps60
      go_wp2_with (fail)
      go_loop [3] (fun i => ∃ k : Nat, k ≤ s.size ∧ i = .int .i64 k ∧ Hid ((s.data.toList.take k).all byteB = true)) (fun i => s.size - (intOf i).toNat)
      case atStart => exact ⟨0, Nat.zero_le _, rfl, rfl⟩
      case round =>
        obtain ⟨k, hk, rfl, HA⟩ := hrel
        by_cases hlt : k < s.size
        · have k0 : (0 : Int) ≤ k := by omega
          have k1 : (k : Int) < s.size := by omega
          have HN := Lib.hid (HNO.out k hlt)
          have HT := Lib.hid (take_all hlt HA.out)
          have hbd : byteB s[k] = (decide ((33 : Int) ≤ (s[k].toNat : Int)) && decide ((s[k].toNat : Int) ≤ 126)) := rfl
          by_cases hc1 : (s[k].toNat : Int) < 33
          · have hno := Lib.hid (HN.out (by rw [hbd, decide_eq_false (by omega), Bool.false_and]))
            clear hbd HN HT HA
            go_wp2_with (fail)
            go_ret
            exact ⟨by rw [hno.out]; rfl, rfl⟩
          · by_cases hc2 : (126 : Int) < s[k].toNat
            · have hno := Lib.hid (HN.out (by rw [hbd, decide_eq_false (show ¬ (s[k].toNat : Int) ≤ 126 by omega), Bool.and_false]))
              clear hbd HN HT HA
              go_wp2_with (fail)
              go_ret
              exact ⟨by rw [hno.out]; rfl, rfl⟩
            · have hy := Lib.hid (HT.out (by rw [hbd, decide_eq_true (show (33 : Int) ≤ (s[k].toNat : Int) by omega), decide_eq_true (show (s[k].toNat : Int) ≤ 126 by omega)]; rfl))
              clear hbd HN HT HA
              go_wp2_with (fail)
              exact ⟨⟨k + 1, by omega, by go_num, hy⟩, by first | (simp [intOf]; done) | (simp [intOf]; omega)⟩
        · have k1 : ¬ (k : Int) < s.size := by omega
          have hall := Lib.hid (HYES.out (by
            have := HA.out
            rwa [List.take_of_length_le (by simp; omega)] at this))
          clear HA
          go_wp2_with (fail)
          go_ret
          exact ⟨by rw [hall.out]; rfl, rfl⟩
set_option maxHeartbeats 400000 in
theorem rin_any (n lo hi : Int) (w : World) : Calls Tryz.prog 61 #[.int .i64 n, .int .i64 lo, .int .i64 hi] w fun e w' => e = .returned (.bool (decide (lo ≤ n) && decide (n ≤ hi))) ∧ w' = w := by
  by_cases h : lo ≤ n
  · go_enter Tryz.func61, Tryz.ntmps61
    go_wp2_with (fail)
    go_ret
    exact ⟨by simp [h], rfl⟩
  · go_enter Tryz.func61, Tryz.ntmps61
    go_wp2_with (fail)
    go_ret
    exact ⟨by rw [show (decide (lo ≤ n)) = false by simpa using h]; rfl, rfl⟩
theorem contains_snoc {ss : List ByteArray} {k : Nat} (hk : k < ss.length) {x : ByteArray} (h : Lib.containsS (ss.take k) x = false) : Lib.containsS (ss.take (k + 1)) x = decide (ss.getD k ⟨#[]⟩ = x) := by
  have hg : ss.getD k ⟨#[]⟩ = ss[k] := by rw [List.getD_eq_getElem?_getD, List.getElem?_eq_getElem hk]; rfl
  rw [hg]
  have hno : ¬ x ∈ ss.take k := fun e => by rw [(Lib.containsS_iff _ _).2 e] at h; cases h
  by_cases e : ss[k] = x
  · rw [decide_eq_true e, Lib.containsS_iff, List.take_succ_eq_append_getElem hk]
    simp [e]
  · rw [decide_eq_false e]
    cases hc : Lib.containsS (ss.take (k + 1)) x
    · rfl
    · rw [Lib.containsS_iff, List.take_succ_eq_append_getElem hk, List.mem_append] at hc
      rcases hc with hc | hc
      · exact absurd hc hno
      · exact absurd (List.mem_singleton.1 hc).symm e
theorem contains_more {ss : List ByteArray} {k i : Nat} (hki : k ≤ i) {x : ByteArray} (h : Lib.containsS (ss.take k) x = true) : Lib.containsS (ss.take i) x = true := by
  rw [Lib.containsS_iff] at h ⊢
  exact List.mem_of_mem_take (show x ∈ (ss.take i).take k by rw [List.take_take, Nat.min_eq_left hki]; exact h)
theorem containsS_nil (x : ByteArray) : Lib.containsS ([] : List ByteArray) x = false := by
  cases hc : Lib.containsS ([] : List ByteArray) x
  · rfl
  · rw [Lib.containsS_iff] at hc; simp at hc
end Go.Proofs.YtemlafbkkaloiaaGreat
namespace Go.Proofs.YtemlafbkkaloiaaGreat
open Go.RowKit
def inZ (n lo hi : Int) : Bool := decide (lo ≤ n) && decide (n ≤ hi)
theorem rinZ (n lo hi : Int) (w : World) : Calls Tryz.prog 61 #[.int .i64 n, .int .i64 lo, .int .i64 hi] w fun e w' => e = .returned (.bool (inZ n lo hi)) ∧ w' = w := rin_any n lo hi w
end Go.Proofs.YtemlafbkkaloiaaGreat
namespace Go.Proofs.YtemlafbkkaloiaaGreat
open Go.RowKit
theorem hotE_name {h : HotS} (e : nameB h.res = false) : hotE h = 10 := by
  unfold hotE lookE; rw [show namedB h.res [] = nameB h.res by simp [namedB], e]; rfl
theorem hotE_form {h : HotS} (e : nameB h.res = true) (h2 : (hot1B h && (hot2B h && hot3B h)) = false) : hotE h = 32 := by
  unfold hotE lookE; rw [show namedB h.res [] = nameB h.res by simp [namedB], e, h2]; rfl
theorem hotE_ok {h : HotS} (e : nameB h.res = true) (h2 : (hot1B h && (hot2B h && hot3B h)) = true) : hotE h = 0 := by
  unfold hotE lookE; rw [show namedB h.res [] = nameB h.res by simp [namedB], e, h2]; rfl
theorem HotBox.below {w w' : World} {b : Nat} {h : HotS} (x : HotBox w b h) (hl : b < w.heap.size) (hb : Below w.heap.size w w') : HotBox w' b h := by
  have g : ∀ o v, w.cell? ⟨b, o, none⟩ = some v → w'.cell? ⟨b, o, none⟩ = some v := fun o v e => (hb.cell (p := ⟨b, o, none⟩) hl).trans e
  exact ⟨g _ _ x.c0, g _ _ x.c1, g _ _ x.c2, g _ _ x.c3, g _ _ x.c4⟩
theorem any_next {xs : List ItemS} {p : ItemS → Bool} {k : Nat} (hk : k < xs.length) (h : (xs.take k).any p = false) : (xs.take (k + 1)).any p = p (xs[k]'hk) := by
  rw [List.take_add_one, List.getElem?_eq_getElem hk, Option.toList_some, List.any_append, h]; simp
theorem any_take_yes {xs : List ItemS} {p : ItemS → Bool} {k : Nat} (hk : k < xs.length) (h : p (xs[k]'hk) = true) : xs.any p = true := List.any_eq_true.2 ⟨_, List.getElem_mem hk, h⟩
set_option maxHeartbeats 12800000 in
set_option maxRecDepth 100000 in
theorem r7hot_any {w : World} (h : HotS) (ok : HotOk w h) : Calls Tryz.prog 25 #[h.v] w fun e w' => e = .returned (.int .i64 (hotE h)) ∧ Below w.heap.size w w' := by
  have hb24 := ok.b
  have HL := Lib.hid ok.l
  have HAT := Lib.hid ok.at_
  have HNM := Lib.hid (fun w => riname_any h.res ok.z w)
  have HI1 := Lib.hid (fun w => rinZ h.idx 0 7 w)
  have HI2 := Lib.hid (fun w => rinZ h.cnt 0 1099511627776 w)
  have HI3 := Lib.hid (fun w => rinZ h.secs 1 60 w)
  have HEN := Lib.hid (fun e => hotE_name (h := h) e)
  have HEF := Lib.hid (fun e e2 => hotE_form (h := h) e e2)
  have HEO := Lib.hid (fun e e2 => hotE_ok (h := h) e e2)
  have HB := Lib.hid (show Below w.heap.size w (w.alloc (hotO h)) from (Below.refl _ _).alloc (Nat.le_refl _) _)
  have HX := Lib.hid (HotBox.of (show (w.alloc (hotO h)).heap[w.heap.size]? = some (hotO h) by rw [get_allocB, if_pos rfl]))
  have hZ : w.heap.size < (w.alloc (hotO h)).heap.size := by simp
  have HD1 := Lib.hid (show hot1B h = (inZ h.idx 0 7 && inZ h.cnt 0 1099511627776) from rfl)
  have HD2 := Lib.hid (show hot2B h = ((inZ h.secs 1 60 && decide ((h.items.length : Int) ≤ 32)) && !twiceB (h.items.map (·.val))) from rfl)
  have HD3 := Lib.hid (show hot3B h = !h.items.any itemBad from rfl)
  generalize hotE h = HE at *
  generalize hot1B h = B1 at *
  generalize hot2B h = B2 at *
  generalize hot3B h = B3 at *
  unfold hotO at HB HX hZ
  unfold HotS.v
  clear ok
  obtain ⟨g, hg⟩ : ∃ g, g = h := ⟨h, rfl⟩
  obtain ⟨res, idx, cnt, secs, ia, il, ic, items⟩ := h
  subst hg
  dsimp only at *
  generalize nameB res = A at *
  generalize inZ idx 0 7 = C1 at *
  generalize inZ cnt 0 1099511627776 = C2 at *
  generalize inZ secs 1 60 = C3 at *
  go_enter Tryz.func25, Tryz.ntmps25
  go_wp2_with (fail)
  generalize w.alloc _ = W at *
  refine (HNM.out _).mono ?_
  rintro e wq ⟨rfl, hq⟩
  have hq := hq.symm; subst hq
  obtain ⟨c0, c1, c2, c3, c4⟩ := HX.out
  cases A
  · have HF := Lib.hid (HEN.out rfl)
    go_wp2_with (fail)
    go_ret
    exact ⟨by rw [HF.out]; rfl, HB.out⟩
  · go_wp2_with (fail)
    refine (HI1.out _).mono ?_
    rintro e wq ⟨rfl, hq⟩
    have hq := hq.symm; subst hq
    cases C1
    · have HF := Lib.hid (HEF.out (by first | rfl | trivial) (by rw [HD1.out]; rfl))
      go_wp2_with (fail)
      go_ret
      exact ⟨by rw [HF.out]; rfl, HB.out⟩
    · go_wp2_with (fail)
      refine (HI2.out _).mono ?_
      rintro e wq ⟨rfl, hq⟩
      have hq := hq.symm; subst hq
      cases C2
      · have HF := Lib.hid (HEF.out (by first | rfl | trivial) (by rw [HD1.out]; rfl))
        go_wp2_with (fail)
        go_ret
        exact ⟨by rw [HF.out]; rfl, HB.out⟩
      · go_wp2_with (fail)
        refine (HI3.out _).mono ?_
        rintro e wq ⟨rfl, hq⟩
        have hq := hq.symm; subst hq
        cases C3
        · have HF := Lib.hid (HEF.out (by first | rfl | trivial) (by rw [HD1.out, HD2.out]; simp))
          go_wp2_with (fail)
          go_ret
          exact ⟨by rw [HF.out]; rfl, HB.out⟩
        · by_cases h32 : (il : Int) ≤ 32
          · have hgt : ¬ (32 : Int) < il := by omega
            have HF2 := Lib.hid (show B1 = true ∧ B2 = !twiceB (items.map (·.val)) from ⟨HD1.out, by rw [HD2.out, HL.out, decide_eq_true h32]; rfl⟩)
            go_wp2_with (fail)
            go_loopw [3, 4] (fun i _ wr => ∃ k : Nat, k ≤ il ∧ i = .int .i64 k ∧ Hid ((List.range k).any (twiceAt (items.map (·.val))) = false) ∧ Hid ((items.take k).any itemBad = false) ∧ Hid (Below W.heap.size W wr)) (fun i _ _ => il - (intOf i).toNat)
            case atStart => exact ⟨0, Nat.zero_le _, rfl, Lib.hid rfl, Lib.hid rfl, Lib.hid (Below.refl _ _)⟩
            case round =>
              rename World => wv
              obtain ⟨i, hi, rfl, HA, HG, HV⟩ := hrel
              have c4 := (HX.out.below hZ HV.out).c4
              dsimp only at c4
              by_cases hlt2 : i < il
              · have hil : i < items.length := by rw [HL.out]; exact hlt2
                have hvl : i < (items.map (·.val)).length := by simpa using hil
                have hbw : Below w.heap.size w wv := HB.out.trans (HV.out.mono HB.out.size)
                obtain ⟨b, off, hab, hbl, d0, d1⟩ := items_get (HAT.out.below (Nat.le_refl _) hbw) hil
                have i0 : (0 : Int) ≤ i := by omega
                have i1 : (i : Int) < il := by omega
                have HIT := Lib.hid (fun (q : Nat) (hq : q < items.length) => items_get (HAT.out.below (Nat.le_refl _) hbw) hq)
                have HST := Lib.hid (range_step HA.out)
                have HTY := Lib.hid (twice_yes (ss := items.map (·.val)) hvl)
                have HGN := Lib.hid (any_next hil HG.out)
                have HGY := Lib.hid (fun e => any_take_yes (p := itemBad) hil e)
                have hgx : (items.map (·.val)).getD i ⟨#[]⟩ = (items[i]'hil).val := by simp [List.getD, hil]
                have HTD := Lib.hid (show twiceAt (items.map (·.val)) i = Lib.containsS ((items.map (·.val)).take i) (items[i]'hil).val by unfold twiceAt; rw [hgx])
                have HBD := Lib.hid (show itemBad (items[i]'hil) = (decide (64 < ((items[i]'hil).val.size : Int)) || !inZ (items[i]'hil).cnt 0 1099511627776) from rfl)
                have HIC := Lib.hid (fun w => rinZ (items[i]'hil).cnt 0 1099511627776 w)
                clear hgx
                generalize itemBad (items[i]'hil) = BD at *
                generalize (items[i]'hil).val = X at *
                generalize (items[i]'hil).cnt = CN at *
                generalize inZ CN 0 1099511627776 = IC at *
                subst hab
                by_cases h64 : (64 : Int) < X.size
                · have HF := Lib.hid (HEF.out (by first | rfl | trivial) (by rw [HD3.out, HGY.out (by rw [HBD.out, decide_eq_true h64]; rfl)]; simp))
                  go_wp2_with (fail)
                  go_ret
                  exact ⟨by rw [HF.out]; rfl, hbw⟩
                · have HBD2 := Lib.hid (HBD.out.trans (by rw [decide_eq_false h64, Bool.false_or]))
                  go_wp2_with (fail)
                  refine (HIC.out _).mono ?_
                  rintro e wq ⟨rfl, hq⟩
                  have hq := hq.symm; subst hq
                  cases IC
                  · have HF := Lib.hid (HEF.out (by first | rfl | trivial) (by rw [HD3.out, HGY.out HBD2.out]; simp))
                    go_wp2_with (fail)
                    go_ret
                    exact ⟨by rw [HF.out]; rfl, hbw⟩
                  · have HG2 : Hid ((items.take (i + 1)).any itemBad = false) := Lib.hid (HGN.out.trans HBD2.out)
                    go_wp2_with (fail)
                    go_loopw [4] (fun q wr => ∃ k : Nat, k ≤ i ∧ q = .int .i64 k ∧ Hid (Lib.containsS ((items.map (·.val)).take k) X = false) ∧ Hid (Below wv.heap.size wv wr)) (fun q _ => i - (intOf q).toNat)
                    case atStart => exact ⟨0, Nat.zero_le _, rfl, Lib.hid (containsS_nil X), Lib.hid (Below.refl _ _)⟩
                    case round =>
                      rename World => wu
                      obtain ⟨q, hq, rfl, HQ, HU⟩ := hrel
                      have hbu : Below W.heap.size W wu := HV.out.trans (HU.out.mono HV.out.size)
                      have c4 := (HX.out.below hZ hbu).c4
                      dsimp only at c4
                      have dX := (HU.out.cell (p := ⟨b, off + i * 2, none⟩) hbl).trans d0
                      by_cases hlt3 : q < i
                      · have hql : q < items.length := by omega
                        have hqv : q < (items.map (·.val)).length := by simpa using hql
                        have q0 : (0 : Int) ≤ q := by omega
                        have q1 : (q : Int) < il := by omega
                        have q2 : (q : Int) < i := by omega
                        obtain ⟨b', off', hab', _, dq0, _⟩ := HIT.out q hql
                        injection hab' with e1; injection e1 with e1 e2
                        subst e1 e2
                        have dq := (HU.out.cell (p := ⟨b, off + q * 2, none⟩) hbl).trans dq0
                        have hsn := contains_snoc hqv HQ.out
                        have hgy : (items.map (·.val)).getD q ⟨#[]⟩ = (items[q]'hql).val := by simp [List.getD, hql]
                        rw [hgy, ← toList_decG] at hsn
                        clear hgy dq0
                        generalize (items[q]'hql).val = Y at *
                        cases he : (Y.toList == X.toList) with
                        | true =>
                          rw [he] at hsn
                          have HF := Lib.hid (HEF.out (by first | rfl | trivial) (by rw [HF2.out.2, HTY.out (by rw [HTD.out]; exact contains_more (by omega) hsn)]; simp))
                          clear hsn
                          go_wp2_with (fail)
                          go_quiet (fail)
                          go_wp2_with (fail)
                          go_ret
                          exact ⟨by rw [HF.out]; rfl, hbw.trans ((below_drewG HU.out _).mono hbw.size)⟩
                        | false =>
                          rw [he] at hsn
                          have HS := Lib.hid hsn
                          clear hsn
                          go_wp2_with (fail)
                          go_quiet (fail)
                          go_wp2_with (fail)
                          exact ⟨⟨q + 1, by omega, by go_num, HS, Lib.hid (below_drewG HU.out _)⟩, by first | (simp [intOf]; done) | (simp [intOf]; omega)⟩
                      · have q2 : ¬ (q : Int) < i := by omega
                        have e1 : q = i := by omega
                        have HS : Hid ((List.range (i + 1)).any (twiceAt (items.map (·.val))) = false) := Lib.hid (by
                          rw [HST.out, HTD.out, ← e1]; exact HQ.out)
                        clear e1
                        go_wp2_with (fail)
                        exact ⟨⟨i + 1, by omega, by go_num, HS, HG2, Lib.hid hbu⟩, by first | (simp [intOf]; done) | (simp [intOf]; omega)⟩
              · have i1 : ¬ (i : Int) < il := by omega
                have HF := Lib.hid (HEO.out (by first | rfl | trivial) (by
                  have h1 := HA.out
                  rw [show i = (items.map (·.val)).length by rw [List.length_map, HL.out]; omega] at h1
                  have h2 := HG.out
                  rw [List.take_of_length_le (by rw [HL.out]; omega)] at h2
                  rw [HF2.out.1, HF2.out.2, HD3.out, h2, show twiceB (items.map (·.val)) = false from h1]; rfl))
                clear HA HG
                go_wp2_with (fail)
                go_ret
                exact ⟨by rw [HF.out]; rfl, HB.out.trans (HV.out.mono HB.out.size)⟩
          · have hgt : (32 : Int) < il := by omega
            have HF := Lib.hid (HEF.out (by first | rfl | trivial) (by rw [HD2.out, HL.out, decide_eq_false h32]; simp))
            go_wp2_with (fail)
            go_ret
            exact ⟨by rw [HF.out]; rfl, HB.out⟩
end Go.Proofs.YtemlafbkkaloiaaGreat
namespace Go.Proofs.YtemlafbkkaloiaaGreat
open Go.RowKit
structure RW where
  key : ByteArray
  p : Nat
  v : Value
  last : Int
  notes : List NoteW
  Lb : List Bk3
structure R15C where
  R : HotS
  seed : Int
  hb : Nat
  mb : Nat
  N : Nat
  sb : Nat
  iv : Value
structure R15V where
  mv : Value
  A : List (ByteArray × Int)
  rv : Value
  RS : List RW
  last : Int
  ls : Int
  sn : List NoteS
  sv : Value
def findR (RS : List RW) (s : ByteArray) : Option RW := RS.find? (fun x => decide (x.key = s))
def R15V.V (s : R15V) (k : ByteArray) : Option (List NoteW) := (findR s.RS k).map (·.notes)
def RW.cs (x : RW) : List Value := [.string x.key, .pointer (some ⟨x.p, 0, none⟩)]
def flatW (RS : List RW) : List Value := (RS.map RW.cs).flatten
def flatI (xs : List ItemS) : List Value := (xs.map ItemS.cs).flatten
def sh15 (R : HotS) (seed : Int) : ShapeS := ⟨R.secs * 1000000, 10, 4, 256, seed⟩
def r15Cells (c : R15C) (s : R15V) : Array Value := #[.string c.R.res, .int .i64 c.R.idx, .int .i64 c.R.cnt, .int .i64 c.R.secs, c.iv, .pointer (some ⟨c.mb, 0, none⟩), s.rv, .pointer (some ⟨c.sb, 0, none⟩), .int .i64 s.last]
structure RCol (c : R15C) (s : R15V) (col : Nat → Nat) : Prop where
  map : ∀ i, Rown c.mb s.mv i → col i = 1
  sk : ∀ i, R6Own c.sb s.sv i → col i = 2
  rows : ∀ i, s.rv.ownBlock = some i → col i = 3
  head : col c.hb = 4
  items : ∀ i, c.iv.ownBlock = some i → col i = 5
  wins : ∀ x, x ∈ s.RS → ∀ i, R3Own x.p x.v i → col i = 6 + x.p
structure RCore (w : World) (c : R15C) (s : R15V) (m : Nat) : Prop where
  head : w.heap[c.hb]? = some (.cells (r15Cells c s) 76)
  fine : hotE c.R = 0
  its : w.ownsRow 0 52 2 c.iv c.R.items.length (flatI c.R.items)
  map : RefM w c.mb c.N s.mv s.A
  kn : (s.A.map (·.1)).Nodup
  kl : s.A.length ≤ c.N
  rows : w.ownsRow 0 85 2 s.rv s.RS.length (flatW s.RS)
  wins : ∀ x, x ∈ s.RS → W3At w x.p (c.R.secs * 100000) x.last x.v x.notes x.Lb ∧ x.last ≤ s.last ∧ x.notes.length ≤ m
  ps : (s.RS.map (·.p)).Nodup
  rk : (s.RS.map (·.key)).Nodup
  sk : R6At w c.sb (sh15 c.R c.seed) s.ls s.sv s.sn
  lsl : s.ls ≤ s.last
  skf : s.sn.length ≤ m
  l0 : 0 ≤ s.last
  l1 : s.last ≤ 1152921504606846976
  s0 : 0 ≤ c.seed
  s1 : c.seed ≤ 18446744073709551615
  col : ∃ col, RCol c s col
def R15Own (c : R15C) (s : R15V) (i : Nat) : Prop := Rown c.mb s.mv i ∨ R6Own c.sb s.sv i ∨ i = c.hb ∨ s.rv.ownBlock = some i ∨ ∃ x, x ∈ s.RS ∧ R3Own x.p x.v i
variable {w w' : World} {c : R15C} {s : R15V} {m : Nat}
theorem RCore.hbLt (k : RCore w c s m) : c.hb < w.heap.size := (Array.getElem?_eq_some_iff.1 k.head).1
theorem RCore.lt (k : RCore w c s m) {i : Nat} (hi : R15Own c s i) : i < w.heap.size := by
  rcases hi with h | h | rfl | h | ⟨x, hx, h⟩
  · exact (k.map.lt h).1
  · rcases h with rfl | h
    · exact (Array.getElem?_eq_some_iff.1 k.sk.head).1
    · exact (k.sk.row.lt i h).2
  · exact k.hbLt
  · exact (k.rows.lt i h).2
  · exact (k.wins x hx).1.lt h
theorem RCore.itsOff (k : RCore w c s m) {i : Nat} (h : c.iv.ownBlock = some i) : ¬ R15Own c s i := by
  obtain ⟨col, hc⟩ := k.col
  have h5 := hc.items i h
  rintro (h | h | rfl | h | ⟨x, hx, h⟩)
  · have := hc.map i h; omega
  · have := hc.sk i h; omega
  · have := hc.head; omega
  · have := hc.rows i h; omega
  · have := hc.wins x hx i h; omega
theorem r6_kept {q : Nat} {h : ShapeS} {last : Int} {v : Value} {ns : List NoteS} (k : R6At w q h last v ns) (hk : ∀ i, R6Own q v i → w'.heap[i]? = w.heap[i]?) : R6At w' q h last v ns :=
  ⟨(hk q (Or.inl rfl)).trans k.head, rowKept3 k.row (fun g e => hk g (Or.inr e)), k.apart, k.fine, k.l0, k.l1, k.few⟩
theorem RCore.kept (k : RCore w c s m) (hz : w.heap.size ≤ w'.heap.size) (hk : ∀ i, R15Own c s i → w'.heap[i]? = w.heap[i]?) (hit : ∀ i, c.iv.ownBlock = some i → w'.heap[i]? = w.heap[i]?) : RCore w' c s m :=
  ⟨(hk _ (Or.inr (Or.inr (Or.inl rfl)))).trans k.head, k.fine, rowKept3 k.its (fun g e => hit g e), k.map.kept (fun i hi => hk i (Or.inl hi)) hz, k.kn, k.kl, rowKept3 k.rows (fun g e => hk g (Or.inr (Or.inr (Or.inr (Or.inl e))))),
   fun x hx => ⟨(k.wins x hx).1.kept (fun i hi => hk i (Or.inr (Or.inr (Or.inr (Or.inr ⟨x, hx, hi⟩))))), (k.wins x hx).2⟩, k.ps, k.rk, r6_kept k.sk (fun i hi => hk i (Or.inr (Or.inl hi))), k.lsl, k.skf, k.l0, k.l1, k.s0, k.s1, k.col⟩
theorem RCore.below (k : RCore w c s m) (hb : Below w.heap.size w w') : RCore w' c s m := k.kept hb.size (fun i hi => hb.block i (k.lt hi)) (fun i hi => hb.block i (k.its.lt i hi).2)
theorem RCore.more (k : RCore w c s m) {n : Nat} (h : m ≤ n) : RCore w c s n :=
  { k with wins := fun x hx => ⟨(k.wins x hx).1, (k.wins x hx).2.1, Nat.le_trans (k.wins x hx).2.2 h⟩, skf := Nat.le_trans k.skf h }
structure RStep (w w' : World) (c : R15C) (s s' : R15V) (m : Nat) : Prop where
  core : RCore w' c s' m
  off : Off (R15Own c s) w w'
  own : ∀ i, R15Own c s' i → R15Own c s i ∨ w.heap.size ≤ i
theorem RStep.trans {a b d : World} {t u : R15V} {n : Nat} (h : RStep a b c s t m) (k : RStep b d c t u n) : RStep a d c s u n := by
  have hz := h.off.size
  refine ⟨k.core, h.off.trans k.off (fun i hi hs => ?_), fun i hi => ?_⟩
  · rcases h.own i hs with h1 | h1
    · exact h1
    · omega
  · rcases k.own i hi with h1 | h1
    · exact h.own i h1
    · exact Or.inr (by omega)
theorem RStep.below (k : RCore w c s m) (hb : Below w.heap.size w w') : RStep w w' c s s m := ⟨k.below hb, Off.ofBelow hb, fun i hi => Or.inl hi⟩
theorem RCore.keep {col : Nat → Nat} {S : Nat → Prop} (ho : Off S w w') {n : Nat} (hS : ∀ i, i < w.heap.size → S i → col i = n) {i : Nat} (hi : i < w.heap.size) (hne : col i ≠ n) : w'.heap[i]? = w.heap[i]? :=
  ho.block i hi (fun e => hne (hS i hi e))
def newCol (w : World) (col : Nat → Nat) (n : Nat) : Nat → Nat := fun i => if i < w.heap.size then col i else n
theorem newCol_old {col : Nat → Nat} {n i : Nat} (h : i < w.heap.size) : newCol w col n i = col i := if_pos h
theorem newCol_new {col : Nat → Nat} {n i : Nat} (h : w.heap.size ≤ i) : newCol w col n i = n := if_neg (by omega)
theorem RStep.map (k : RCore w c s m) {mv' : Value} {A' : List (ByteArray × Int)} (h1 : RefM w' c.mb c.N mv' A') (hn : (A'.map (·.1)).Nodup) (hle : A'.length ≤ c.N) (ho : Off (Rown c.mb s.mv) w w') (hs : ∀ b, Rown c.mb mv' b → Rown c.mb s.mv b ∨ w.heap.size ≤ b) : RStep w w' c s { s with mv := mv', A := A' } m := by
  obtain ⟨col, hc⟩ := k.col
  have hk : ∀ i, i < w.heap.size → col i ≠ 1 → w'.heap[i]? = w.heap[i]? := fun i hi hne => RCore.keep ho (fun i hi e => hc.map i e) hi hne
  refine ⟨⟨(hk _ k.hbLt (by rw [hc.head]; decide)).trans k.head, k.fine, rowKept3 k.its (fun g e => hk g (k.its.lt g e).2 (by rw [hc.items g e]; decide)), h1, hn, hle, rowKept3 k.rows (fun g e => hk g (k.rows.lt g e).2 (by rw [hc.rows g e]; decide)),
    fun x hx => ⟨(k.wins x hx).1.kept (fun i hi => hk i ((k.wins x hx).1.lt hi) (by rw [hc.wins x hx i hi]; omega)), (k.wins x hx).2⟩, k.ps, k.rk, r6_kept k.sk (fun i hi => hk i (k.lt (Or.inr (Or.inl hi))) (by rw [hc.sk i hi]; decide)), k.lsl, k.skf, k.l0, k.l1, k.s0, k.s1, newCol w col 1, ?_⟩, ho.mono (fun i _ h => Or.inl h), fun i hi => ?_⟩
  · refine ⟨fun i hi => ?_, fun i hi => ?_, fun i hi => ?_, ?_, fun i hi => ?_, fun x hx i hi => ?_⟩
    · rcases hs i hi with h | h
      · rw [newCol_old (k.map.lt h).1]; exact hc.map i h
      · exact newCol_new h
    · rw [newCol_old (k.lt (Or.inr (Or.inl hi)))]; exact hc.sk i hi
    · rw [newCol_old (k.rows.lt i hi).2]; exact hc.rows i hi
    · rw [newCol_old k.hbLt]; exact hc.head
    · rw [newCol_old (k.its.lt i hi).2]; exact hc.items i hi
    · rw [newCol_old ((k.wins x hx).1.lt hi)]; exact hc.wins x hx i hi
  · rcases hi with h | h
    · rcases hs i h with h | h
      · exact Or.inl (Or.inl h)
      · exact Or.inr h
    · exact Or.inl (Or.inr h)
theorem RStep.sk (k : RCore w c s m) {ls : Int} {sn : List NoteS} {sv : Value} {n : Nat} (h1 : R6At w' c.sb (sh15 c.R c.seed) ls sv sn) (hl : ls ≤ s.last) (hm : m ≤ n) (hf : sn.length ≤ n) (ho : Off (R6Own c.sb s.sv) w w') (hs : ∀ b, R6Own c.sb sv b → R6Own c.sb s.sv b ∨ w.heap.size ≤ b) : RStep w w' c s { s with ls := ls, sn := sn, sv := sv } n := by
  obtain ⟨col, hc⟩ := k.col
  have hk : ∀ i, i < w.heap.size → col i ≠ 2 → w'.heap[i]? = w.heap[i]? := fun i hi hne => RCore.keep ho (fun i hi e => hc.sk i e) hi hne
  refine ⟨⟨(hk _ k.hbLt (by rw [hc.head]; decide)).trans k.head, k.fine, rowKept3 k.its (fun g e => hk g (k.its.lt g e).2 (by rw [hc.items g e]; decide)), k.map.kept (fun i hi => hk i (k.map.lt hi).1 (by rw [hc.map i hi]; decide)) ho.size, k.kn, k.kl, rowKept3 k.rows (fun g e => hk g (k.rows.lt g e).2 (by rw [hc.rows g e]; decide)),
    fun x hx => ⟨(k.wins x hx).1.kept (fun i hi => hk i ((k.wins x hx).1.lt hi) (by rw [hc.wins x hx i hi]; omega)), (k.wins x hx).2.1, Nat.le_trans (k.wins x hx).2.2 hm⟩, k.ps, k.rk, h1, hl, hf, k.l0, k.l1, k.s0, k.s1, newCol w col 2, ?_⟩, ho.mono (fun i _ h => Or.inr (Or.inl h)), fun i hi => ?_⟩
  · refine ⟨fun i hi => ?_, fun i hi => ?_, fun i hi => ?_, ?_, fun i hi => ?_, fun x hx i hi => ?_⟩
    · rw [newCol_old (k.map.lt hi).1]; exact hc.map i hi
    · rcases hs i hi with h | h
      · rw [newCol_old (k.lt (Or.inr (Or.inl h)))]; exact hc.sk i h
      · exact newCol_new h
    · rw [newCol_old (k.rows.lt i hi).2]; exact hc.rows i hi
    · rw [newCol_old k.hbLt]; exact hc.head
    · rw [newCol_old (k.its.lt i hi).2]; exact hc.items i hi
    · rw [newCol_old ((k.wins x hx).1.lt hi)]; exact hc.wins x hx i hi
  · rcases hi with h | h | h
    · exact Or.inl (Or.inl h)
    · rcases hs i h with h | h
      · exact Or.inl (Or.inr (Or.inl h))
      · exact Or.inr h
    · exact Or.inl (Or.inr (Or.inr h))
theorem RCore.cells (k : RCore w c s m) : w.cell? ⟨c.hb, 0, none⟩ = some (.string c.R.res) ∧ w.cell? ⟨c.hb, 1, none⟩ = some (.int .i64 c.R.idx) ∧ w.cell? ⟨c.hb, 2, none⟩ = some (.int .i64 c.R.cnt) ∧ w.cell? ⟨c.hb, 3, none⟩ = some (.int .i64 c.R.secs) ∧ w.cell? ⟨c.hb, 4, none⟩ = some c.iv ∧
    w.cell? ⟨c.hb, 5, none⟩ = some (.pointer (some ⟨c.mb, 0, none⟩)) ∧ w.cell? ⟨c.hb, 6, none⟩ = some s.rv ∧ w.cell? ⟨c.hb, 7, none⟩ = some (.pointer (some ⟨c.sb, 0, none⟩)) ∧ w.cell? ⟨c.hb, 8, none⟩ = some (.int .i64 s.last) := by
  have h := k.head
  refine ⟨?_, ?_, ?_, ?_, ?_, ?_, ?_, ?_, ?_⟩ <;> simp [World.cell?, h, r15Cells]
theorem RCore.frozen (k : RCore w c s m) (j : Nat) : w.frozen? ⟨c.hb, j, none⟩ = false := frozen_of_row w c.hb j _ _ k.head
theorem RStep.last (k : RCore w c s m) {at_ : Int} (h0 : s.last ≤ at_) (h1 : at_ ≤ 1152921504606846976) : RStep w (w.setCell ⟨c.hb, 8, none⟩ (.int .i64 at_)) c s { s with last := at_ } m := by
  obtain ⟨col, hc⟩ := k.col
  have ho : Off (fun i => i = c.hb) w (w.setCell ⟨c.hb, 8, none⟩ (.int .i64 at_)) := (Off.refl (fun i => i = c.hb) w).setCell (p := ⟨c.hb, 8, none⟩) (fun _ => rfl) _
  have hk : ∀ i, i < w.heap.size → col i ≠ 4 → (w.setCell ⟨c.hb, 8, none⟩ (.int .i64 at_)).heap[i]? = w.heap[i]? := fun i hi hne => RCore.keep ho (fun i hi e => by rw [e]; exact hc.head) hi hne
  have hl := k.l0
  refine ⟨⟨?_, k.fine, rowKept3 k.its (fun g e => hk g (k.its.lt g e).2 (by rw [hc.items g e]; decide)), k.map.kept (fun i hi => hk i (k.map.lt hi).1 (by rw [hc.map i hi]; decide)) ho.size, k.kn, k.kl, rowKept3 k.rows (fun g e => hk g (k.rows.lt g e).2 (by rw [hc.rows g e]; decide)),
    fun x hx => ⟨(k.wins x hx).1.kept (fun i hi => hk i ((k.wins x hx).1.lt hi) (by rw [hc.wins x hx i hi]; omega)), Int.le_trans (k.wins x hx).2.1 h0, (k.wins x hx).2.2⟩, k.ps, k.rk, r6_kept k.sk (fun i hi => hk i (k.lt (Or.inr (Or.inl hi))) (by rw [hc.sk i hi]; decide)), Int.le_trans k.lsl h0, k.skf, Int.le_trans hl h0, h1, k.s0, k.s1, col, ⟨hc.map, hc.sk, hc.rows, hc.head, hc.items, hc.wins⟩⟩, ho.mono (fun i _ h => Or.inr (Or.inr (Or.inl h))), fun i hi => Or.inl hi⟩
  rw [heap_setCell_same w c.hb 8 _ _ _ k.head]; rfl
theorem RStep.rows (k : RCore w c s m) {rv : Value} {RS : List RW} {n : Nat} (hm : m ≤ n) (hrow : w.ownsRow 0 85 2 rv RS.length (flatW RS)) (hw : ∀ x, x ∈ RS → W3At w x.p (c.R.secs * 100000) x.last x.v x.notes x.Lb ∧ x.last ≤ s.last ∧ x.notes.length ≤ n) (hp : (RS.map (·.p)).Nodup) (hk' : (RS.map (·.key)).Nodup)
    {col : Nat → Nat} (hc : RCol c { s with rv := rv, RS := RS } col) : RCore (w.setCell ⟨c.hb, 6, none⟩ rv) c { s with rv := rv, RS := RS } n := by
  have ho : Off (fun i => i = c.hb) w (w.setCell ⟨c.hb, 6, none⟩ rv) := (Off.refl (fun i => i = c.hb) w).setCell (p := ⟨c.hb, 6, none⟩) (fun _ => rfl) _
  have hk : ∀ i, i < w.heap.size → col i ≠ 4 → (w.setCell ⟨c.hb, 6, none⟩ rv).heap[i]? = w.heap[i]? := fun i hi hne => RCore.keep ho (fun i hi e => by rw [e]; exact hc.head) hi hne
  refine ⟨?_, k.fine, rowKept3 k.its (fun g e => hk g (k.its.lt g e).2 (by rw [hc.items g e]; decide)), k.map.kept (fun i hi => hk i (k.map.lt hi).1 (by rw [hc.map i hi]; decide)) ho.size, k.kn, k.kl, rowKept3 hrow (fun g e => hk g (hrow.lt g e).2 (by rw [hc.rows g e]; decide)),
    fun x hx => ⟨(hw x hx).1.kept (fun i hi => hk i ((hw x hx).1.lt hi) (by rw [hc.wins x hx i hi]; omega)), (hw x hx).2⟩, hp, hk', r6_kept k.sk (fun i hi => hk i (k.lt (Or.inr (Or.inl hi))) (by rw [hc.sk i hi]; decide)), k.lsl, Nat.le_trans k.skf hm, k.l0, k.l1, k.s0, k.s1, col, hc⟩
  rw [heap_setCell_same w c.hb 6 _ _ _ k.head]; rfl
theorem inj_nodupR {α β : Type} {f : α → β} : ∀ {l : List α}, (l.map f).Nodup → ∀ {x y : α}, x ∈ l → y ∈ l → f x = f y → x = y
  | [], _, _, _, hx, _, _ => by cases hx
  | z :: l, h, x, y, hx, hy, e => by
    rw [List.map_cons, List.nodup_cons] at h
    obtain ⟨h1, h2⟩ := h
    rcases List.mem_cons.1 hx with e1 | hx2
    · rcases List.mem_cons.1 hy with e2 | hy2
      · exact e1.trans e2.symm
      · exact (h1 (List.mem_map.2 ⟨y, hy2, by rw [← e, e1]⟩)).elim
    · rcases List.mem_cons.1 hy with e2 | hy2
      · exact (h1 (List.mem_map.2 ⟨x, hx2, by rw [e, e2]⟩)).elim
      · exact inj_nodupR h2 hx2 hy2 e
def updR (RS : List RW) (y : RW) : List RW := RS.map (fun x => if x.key = y.key then y else x)
theorem updR_keys (RS : List RW) (y : RW) : (updR RS y).map (·.key) = RS.map (·.key) := by
  unfold updR
  rw [List.map_map]
  apply List.map_congr_left
  intro x _
  show (if x.key = y.key then y else x).key = x.key
  split
  · rename_i h; exact h.symm
  · rfl
theorem updR_ps {RS : List RW} (hn : (RS.map (·.key)).Nodup) {x y : RW} (hx : x ∈ RS) (hk : y.key = x.key) (hp : y.p = x.p) : (updR RS y).map (·.p) = RS.map (·.p) := by
  unfold updR
  rw [List.map_map]
  apply List.map_congr_left
  intro z hz
  show (if z.key = y.key then y else z).p = z.p
  split
  · rename_i h
    have : z = x := inj_nodupR hn hz hx (h.trans hk)
    rw [this, hp]
  · rfl
theorem updR_mem {RS : List RW} {y z : RW} (h : z ∈ updR RS y) : z = y ∨ (z ∈ RS ∧ z.key ≠ y.key) := by
  obtain ⟨x, hx, rfl⟩ := List.mem_map.1 h
  by_cases e : x.key = y.key
  · rw [if_pos e]; exact Or.inl rfl
  · rw [if_neg e]; exact Or.inr ⟨hx, e⟩
theorem updR_flat {RS : List RW} (hn : (RS.map (·.key)).Nodup) {x y : RW} (hx : x ∈ RS) (hk : y.key = x.key) (hp : y.p = x.p) : flatW (updR RS y) = flatW RS := by
  unfold flatW
  congr 1
  unfold updR
  rw [List.map_map]
  apply List.map_congr_left
  intro z hz
  show (if z.key = y.key then y else z).cs = z.cs
  split
  · rename_i h
    have : z = x := inj_nodupR hn hz hx (h.trans hk)
    subst this
    unfold RW.cs
    rw [hk, hp]
  · rfl
theorem findR_upd {RS : List RW} {x y : RW} (hx : x ∈ RS) (hk : y.key = x.key) (q : ByteArray) : findR (updR RS y) q = if q = y.key then some y else findR RS q := by
  unfold findR updR
  induction RS with
  | nil => cases hx
  | cons z RS ih =>
    rw [List.map_cons, List.find?_cons, List.find?_cons]
    by_cases e : z.key = y.key
    · rw [if_pos e]
      by_cases e2 : q = y.key
      · rw [decide_eq_true e2.symm, if_pos e2]
      · have h1 : decide (y.key = q) = false := decide_eq_false (fun h => e2 h.symm)
        have h2 : decide (z.key = q) = false := decide_eq_false (fun h => e2 (h.symm.trans e))
        rw [h1, h2, if_neg e2]
        dsimp only
        by_cases hx2 : x ∈ RS
        · have := ih hx2
          rw [this, if_neg e2]
        · -- y's row does not lie behind
          have : ∀ l : List RW, (l.map (fun x => if x.key = y.key then y else x)).find? (fun x => decide (x.key = q)) = l.find? (fun x => decide (x.key = q)) := by
            intro l
            induction l with
            | nil => rfl
            | cons u l ih =>
              rw [List.map_cons, List.find?_cons, List.find?_cons]
              by_cases e3 : u.key = y.key
              · rw [if_pos e3, h1, decide_eq_false (fun h : u.key = q => e2 (h.symm.trans e3))]; exact ih
              · rw [if_neg e3]
                cases decide (u.key = q)
                · exact ih
                · rfl
          exact this RS
    · rw [if_neg e]
      by_cases e2 : z.key = q
      · have e3 : q ≠ y.key := fun h => e (e2.trans h)
        rw [decide_eq_true e2, if_neg e3]
      · rw [decide_eq_false e2]
        dsimp only
        refine ih ?_
        rcases List.mem_cons.1 hx with h | h
        · exact absurd (by rw [h] at hk; exact hk.symm) e
        · exact h
def delR (RS : List RW) (g : ByteArray) : List RW := RS.filter (fun x => !decide (x.key = g))
theorem findR_snoc (RS : List RW) (x : RW) (k : ByteArray) : findR (RS ++ [x]) k = (findR RS k).or (if x.key = k then some x else none) := by
  unfold findR
  rw [List.find?_append]
  by_cases e : x.key = k
  · simp [e]
  · simp [e]
theorem findR_del (RS : List RW) (g k : ByteArray) : findR (delR RS g) k = if k = g then none else findR RS k := by
  unfold findR delR
  induction RS with
  | nil => simp
  | cons x RS ih =>
    rw [List.filter_cons]
    by_cases e : x.key = g
    · rw [if_neg (by simp [e]), ih]
      by_cases e2 : k = g
      · rw [if_pos e2, if_pos e2]
      · rw [if_neg e2, if_neg e2, List.find?_cons]
        have : decide (x.key = k) = false := decide_eq_false (fun h => e2 (h.symm.trans e))
        rw [this]
    · rw [if_pos (by simp [e]), List.find?_cons, ih]
      by_cases e2 : x.key = k
      · have e3 : k ≠ g := fun h => e (e2.trans h)
        simp [e2, e3]
      · simp only [decide_eq_false e2]
        by_cases e3 : k = g
        · rw [if_pos e3, if_pos e3]
        · rw [if_neg e3, if_neg e3, List.find?_cons, decide_eq_false e2]
theorem hasA_mem {A : List (ByteArray × Int)} {s : ByteArray} : hasA A s = true ↔ s ∈ A.map (·.1) := by
  unfold hasA
  rw [List.any_eq_true, List.mem_map]
  exact ⟨fun ⟨p, h1, h2⟩ => ⟨p, h1, by simpa using h2⟩, fun ⟨p, h1, h2⟩ => ⟨p, h1, by simpa using h2⟩⟩
theorem delA_nodup {A : List (ByteArray × Int)} (hn : (A.map (·.1)).Nodup) (s : ByteArray) (v : Int) : ((delA A s ++ [(s, v)]).map (·.1)).Nodup := by
  rw [List.map_append, List.nodup_append]
  refine ⟨List.Sublist.nodup (List.Sublist.map _ List.filter_sublist) hn, by simp, fun a ha b hb => ?_⟩
  obtain ⟨p, hp, rfl⟩ := List.mem_map.1 ha
  have h1 := (List.mem_filter.1 hp).2
  have hb : b = s := by simpa using hb
  rw [hb]
  simpa using h1
theorem delA_len {A : List (ByteArray × Int)} {s : ByteArray} (h : hasA A s = true) : (delA A s).length + 1 ≤ A.length := by
  obtain ⟨p, hp, e⟩ := List.mem_map.1 (hasA_mem.1 h)
  have : (delA A s).length < A.length := List.length_filter_lt_length_iff_exists.2 ⟨p, hp, by simp [e]⟩
  omega
theorem getA_nodup {A : List (ByteArray × Int)} (hn : (A.map (·.1)).Nodup) (s : ByteArray) : ((getA A s).map (·.1)).Nodup := by
  unfold getA
  split
  · exact delA_nodup hn s _
  · exact hn
theorem getA_len {A : List (ByteArray × Int)} (s : ByteArray) : (getA A s).length ≤ A.length := by
  unfold getA
  split
  · rename_i h
    have := delA_len h
    rw [List.length_append]
    exact this
  · exact Nat.le_refl _
theorem putA_nodup {n : Nat} {A : List (ByteArray × Int)} (hn : (A.map (·.1)).Nodup) (s : ByteArray) (v : Int) : ((putA n A s v).map (·.1)).Nodup := by
  have hno : ∀ {B : List (ByteArray × Int)}, hasA A s = false → List.Sublist B A → ((B ++ [(s, v)]).map (·.1)).Nodup := fun {B} h hs => by
    rw [List.map_append, List.nodup_append]
    refine ⟨List.Sublist.nodup (List.Sublist.map _ hs) hn, by simp, fun a ha b hb => ?_⟩
    have hb : b = s := by simpa using hb
    rw [hb]
    rintro rfl
    have : hasA A a = true := hasA_mem.2 ((List.Sublist.map (·.1) hs).subset ha)
    rw [h] at this
    cases this
  unfold putA
  split
  · exact delA_nodup hn s v
  · rename_i h
    have h := Bool.eq_false_iff.2 h
    split
    · exact hno h (List.tail_sublist A)
    · exact hno h (List.Sublist.refl A)
theorem putA_len {n : Nat} (h1 : 1 ≤ n) {A : List (ByteArray × Int)} (hl : A.length ≤ n) (s : ByteArray) (v : Int) : (putA n A s v).length ≤ n := by
  unfold putA
  split
  · rename_i h
    have := delA_len h
    rw [List.length_append]
    show _ + 1 ≤ n
    omega
  · split
    · rw [List.length_append, List.length_tail]
      show _ + 1 ≤ n
      omega
    · rw [List.length_append]
      show _ + 1 ≤ n
      omega
theorem RStep.win (k : RCore w c s m) {x : RW} (hx : x ∈ s.RS) {y : RW} {n : Nat} (hm : m ≤ n) (hk' : y.key = x.key) (hp : y.p = x.p) (h1 : W3At w' y.p (c.R.secs * 100000) y.last y.v y.notes y.Lb) (hl : y.last ≤ s.last) (hf : y.notes.length ≤ n) (ho : Off (R3Own x.p x.v) w w') (hs : ∀ b, R3Own y.p y.v b → R3Own x.p x.v b ∨ w.heap.size ≤ b) : RStep w w' c s { s with RS := updR s.RS y } n := by
  obtain ⟨col, hc⟩ := k.col
  have hk : ∀ i, i < w.heap.size → col i ≠ 6 + x.p → w'.heap[i]? = w.heap[i]? := fun i hi hne => RCore.keep ho (fun i hi e => hc.wins x hx i e) hi hne
  have hoth : ∀ z, z ∈ s.RS → z.key ≠ y.key → ∀ i, R3Own z.p z.v i → col i ≠ 6 + x.p := fun z hz hne i hi => by
    rw [hc.wins z hz i hi]
    intro e
    have e2 : z.p = x.p := by omega
    have : z = x := inj_nodupR k.ps hz hx e2
    exact hne (by rw [this, hk'])
  refine ⟨⟨(hk _ k.hbLt (by rw [hc.head]; omega)).trans k.head, k.fine, rowKept3 k.its (fun g e => hk g (k.its.lt g e).2 (by rw [hc.items g e]; omega)), k.map.kept (fun i hi => hk i (k.map.lt hi).1 (by rw [hc.map i hi]; omega)) ho.size, k.kn, k.kl, ?_, fun z hz => ?_, ?_, ?_, r6_kept k.sk (fun i hi => hk i (k.lt (Or.inr (Or.inl hi))) (by rw [hc.sk i hi]; omega)), k.lsl, Nat.le_trans k.skf hm, k.l0, k.l1, k.s0, k.s1, newCol w col (6 + x.p), ?_⟩, ho.mono (fun i _ h => Or.inr (Or.inr (Or.inr (Or.inr ⟨x, hx, h⟩)))), fun i hi => ?_⟩
  · show w'.ownsRow 0 _ 2 s.rv (updR s.RS y).length (flatW (updR s.RS y))
    rw [updR_flat k.rk hx hk' hp, show (updR s.RS y).length = s.RS.length by simp [updR]]
    exact rowKept3 k.rows (fun g e => hk g (k.rows.lt g e).2 (by rw [hc.rows g e]; omega))
  · rcases updR_mem hz with rfl | ⟨hz, hne⟩
    · exact ⟨h1, hl, hf⟩
    · exact ⟨(k.wins z hz).1.kept (fun i hi => hk i ((k.wins z hz).1.lt hi) (hoth z hz hne i hi)), (k.wins z hz).2.1, Nat.le_trans (k.wins z hz).2.2 hm⟩
  · show ((updR s.RS y).map (·.p)).Nodup
    rw [updR_ps k.rk hx hk' hp]; exact k.ps
  · show ((updR s.RS y).map (·.key)).Nodup
    rw [updR_keys]; exact k.rk
  · refine ⟨fun i hi => ?_, fun i hi => ?_, fun i hi => ?_, ?_, fun i hi => ?_, fun z hz i hi => ?_⟩
    · rw [newCol_old (k.map.lt hi).1]; exact hc.map i hi
    · rw [newCol_old (k.lt (Or.inr (Or.inl hi)))]; exact hc.sk i hi
    · rw [newCol_old (k.rows.lt i hi).2]; exact hc.rows i hi
    · rw [newCol_old k.hbLt]; exact hc.head
    · rw [newCol_old (k.its.lt i hi).2]; exact hc.items i hi
    · rcases updR_mem hz with rfl | ⟨hz, hne⟩
      · rcases hs i hi with h | h
        · rw [newCol_old ((k.wins x hx).1.lt h), hp]; exact hc.wins x hx i h
        · rw [newCol_new h, hp]
      · rw [newCol_old ((k.wins z hz).1.lt hi)]; exact hc.wins z hz i hi
  · rcases hi with h | h | h | h | ⟨z, hz, h⟩
    · exact Or.inl (Or.inl h)
    · exact Or.inl (Or.inr (Or.inl h))
    · exact Or.inl (Or.inr (Or.inr (Or.inl h)))
    · exact Or.inl (Or.inr (Or.inr (Or.inr (Or.inl h))))
    · rcases updR_mem hz with rfl | ⟨hz, hne⟩
      · rcases hs i h with h | h
        · exact Or.inl (Or.inr (Or.inr (Or.inr (Or.inr ⟨x, hx, h⟩))))
        · exact Or.inr h
      · exact Or.inl (Or.inr (Or.inr (Or.inr (Or.inr ⟨z, hz, h⟩))))
end Go.Proofs.YtemlafbkkaloiaaGreat
namespace Go.Proofs.YtemlafbkkaloiaaGreat
open Go.RowKit
theorem cs_lenW (l : List RW) : ∀ r ∈ l.map RW.cs, r.length = 2 := by intro r hr; obtain ⟨x, _, rfl⟩ := List.mem_map.1 hr; rfl
theorem flatW_snoc (l : List RW) (d : RW) : flatW (l ++ [d]) = flatW l ++ d.cs := by simp [flatW]
theorem flatW_get {l : List RW} {j : Nat} {x : RW} (h : l[j]? = some x) (k : Nat) (hk : k < 2) : (flatW l)[j * 2 + k]? = x.cs[k]? := flatten_get (cs_lenW l) (by rw [List.getElem?_map, h]; rfl) k hk
theorem flatI_get {l : List ItemS} {j : Nat} {x : ItemS} (h : l[j]? = some x) (k : Nat) (hk : k < 2) : (flatI l)[j * 2 + k]? = x.cs[k]? := flatten_get (cs_len_itH l) (by rw [List.getElem?_map, h]; rfl) k hk
theorem row2_form {w : World} {base n : Nat} {e : TypeId} {v : Value} {xs : List Value} {α : Type} {L : List α} {a b : α → Value} (h : w.ownsRow base e 2 v n xs) (hn : L.length = n) (hg : ∀ j x, L[j]? = some x → xs[j * 2]? = some (a x) ∧ xs[j * 2 + 1]? = some (b x)) :
    ∃ p cap, v = .slice p n cap ∧ ∀ j x, L[j]? = some x → ∃ g, p = some ⟨g, 0, none⟩ ∧ g < w.heap.size ∧ w.cell? ⟨g, j * 2, none⟩ = some (a x) ∧ w.cell? ⟨g, j * 2 + 1, none⟩ = some (b x) := by
  rcases h.2 with ⟨rfl, hz⟩ | ⟨g, cap, cur, rfl, _, hh, _⟩
  · subst hz
    refine ⟨none, 0, rfl, fun j x hj => ?_⟩
    rw [List.length_eq_zero_iff.1 hn] at hj
    simp at hj
  · refine ⟨_, _, rfl, fun j x hj => ⟨g, rfl, (Array.getElem?_eq_some_iff.1 hh).1, ?_, ?_⟩⟩
    · have hjl := (List.getElem?_eq_some_iff.1 hj).1
      rw [h.cellAt (j * 2) (by omega)]
      exact (hg j x hj).1
    · have hjl := (List.getElem?_eq_some_iff.1 hj).1
      rw [h.cellAt (j * 2 + 1) (by omega)]
      exact (hg j x hj).2
theorem RCore.rowForm {w : World} {c : R15C} {s : R15V} {m : Nat} (k : RCore w c s m) : ∃ p cap, s.rv = .slice p s.RS.length cap ∧ ∀ j x, s.RS[j]? = some x → ∃ g, p = some ⟨g, 0, none⟩ ∧ g < w.heap.size ∧ w.cell? ⟨g, j * 2, none⟩ = some (.string x.key) ∧ w.cell? ⟨g, j * 2 + 1, none⟩ = some (.pointer (some ⟨x.p, 0, none⟩)) :=
  row2_form k.rows rfl (fun j x hj => ⟨flatW_get hj 0 (by decide), flatW_get hj 1 (by decide)⟩)
theorem RCore.itemForm {w : World} {c : R15C} {s : R15V} {m : Nat} (k : RCore w c s m) : ∃ p cap, c.iv = .slice p c.R.items.length cap ∧ ∀ j x, c.R.items[j]? = some x → ∃ g, p = some ⟨g, 0, none⟩ ∧ g < w.heap.size ∧ w.cell? ⟨g, j * 2, none⟩ = some (.string x.val) ∧ w.cell? ⟨g, j * 2 + 1, none⟩ = some (.int .i64 x.cnt) :=
  row2_form k.its rfl (fun j x hj => ⟨flatI_get hj 0 (by decide), flatI_get hj 1 (by decide)⟩)
theorem limI_find {R : HotS} {s : ByteArray} {k : Nat} {x : ItemS} (hx : R.items[k]? = some x) (hd : ∀ (j : Nat) (y : ItemS), j < k → R.items[j]? = some y → (y.val.toList == s.toList) = false) (h : (x.val.toList == s.toList) = true) : limI R s = x.cnt := by
  unfold limI
  have hk := (List.getElem?_eq_some_iff.1 hx).1
  have := find_at (p := fun x : ItemS => x.val.toList == s.toList) hk (by rw [(List.getElem?_eq_some_iff.1 hx).2]; exact h) (fun j hj => hd j _ hj (List.getElem?_eq_getElem (by omega)))
  rw [this, (List.getElem?_eq_some_iff.1 hx).2]
theorem limI_none {R : HotS} {s : ByteArray} (hd : ∀ (j : Nat) (y : ItemS), R.items[j]? = some y → (y.val.toList == s.toList) = false) : limI R s = R.cnt := by
  unfold limI
  rw [List.find?_eq_none.2 (fun x hx => by
    obtain ⟨j, hj⟩ := List.getElem?_of_mem hx
    rw [hd j x hj]; simp)]
set_option maxHeartbeats 3200000 in
set_option maxRecDepth 100000 in
theorem r15limit_any {w : World} {c : R15C} {s : R15V} {m : Nat} (k : RCore w c s m) (hil : c.R.items.length ≤ 140737488351232) (key : ByteArray) :
    Calls Tryz.prog 15 #[.pointer (some ⟨c.hb, 0, none⟩), .string key] w fun e w' => e = .returned (.int .i64 (limI c.R key)) ∧ w' = w := by
  obtain ⟨c0, c1, c2, c3, c4, c5, c6, c7, c8⟩ := k.cells
  obtain ⟨p, cap, hiv, hcells⟩ := k.itemForm
  rw [hiv] at c4
  have HC := Lib.hid hcells
  obtain ⟨len, hlen⟩ : ∃ len, c.R.items.length = len := ⟨_, rfl⟩
  rw [hlen] at c4 hil
  have HLEN := Lib.hid hlen
  clear k hcells hiv hlen c0 c1 c3 c5 c6 c7 c8
  go_enter Tryz.func15, Tryz.ntmps15
  go_wp2_with (fail)
  go_loopw [5] (fun i wr => ∃ n : Nat, n ≤ len ∧ i = .int .i64 n ∧ Hid (∀ j y, j < n → c.R.items[j]? = some y → (y.val.toList == key.toList) = false) ∧ wr = w) (fun i _ => len - (intOf i).toNat)
  case atStart => exact ⟨0, Nat.zero_le _, rfl, Lib.hid (fun j y h => by omega), rfl⟩
  case round =>
    obtain ⟨n, hn, rfl, HD, hwr⟩ := hrel
    subst hwr
    by_cases hlt : n < len
    · have k0 : (0 : Int) ≤ n := by omega
      have k1 : (n : Int) < len := by omega
      obtain ⟨x, hx⟩ : ∃ x, c.R.items[n]? = some x := ⟨_, List.getElem?_eq_getElem (by rw [HLEN.out]; exact hlt)⟩
      obtain ⟨g, rfl, hg, d0, d1⟩ := HC.out n x hx
      have HX := Lib.hid hx
      clear hx hg
      cases hb : (x.val.toList == key.toList) with
      | true =>
        have HL := Lib.hid (limI_find HX.out HD.out hb)
        go_wp2_with (fail)
        go_ret
        exact ⟨by rw [HL.out]; rfl, rfl⟩
      | false =>
        have HDN := Lib.hid (show ∀ j y, j < n + 1 → c.R.items[j]? = some y → (y.val.toList == key.toList) = false from fun j y hj hy => by
          by_cases h : j = n
          · subst h; rw [HX.out] at hy; cases hy; exact hb
          · exact HD.out j y (by omega) hy)
        go_wp2_with (fail)
        exact ⟨⟨n + 1, by omega, by go_num, HDN, by first | trivial | rfl⟩, by first | (simp [intOf]; done) | (simp [intOf]; omega)⟩
    · have k1 : ¬ (n : Int) < len := by omega
      have HL := Lib.hid (limI_none (R := c.R) (s := key) (fun j y hy => HD.out j y (by have := (List.getElem?_eq_some_iff.1 hy).1; rw [HLEN.out] at this; omega) hy))
      go_wp2_with (fail)
      go_ret
      exact ⟨by rw [HL.out]; rfl, rfl⟩
theorem findR_at {RS : List RW} {s : ByteArray} {k : Nat} {x : RW} (hx : RS[k]? = some x) (hd : ∀ (j : Nat) (y : RW), j < k → RS[j]? = some y → decide (y.key = s) = false) (h : x.key = s) : findR RS s = some x := by
  unfold findR
  have hk := (List.getElem?_eq_some_iff.1 hx).1
  rw [List.find?_eq_some_iff_getElem]
  refine ⟨by simpa using h, k, hk, (List.getElem?_eq_some_iff.1 hx).2, fun j hj => ?_⟩
  have := hd j _ hj (List.getElem?_eq_getElem (by omega))
  rw [this]; rfl
theorem findR_no {RS : List RW} {s : ByteArray} (hd : ∀ (j : Nat) (y : RW), RS[j]? = some y → decide (y.key = s) = false) : findR RS s = none := by
  unfold findR
  rw [List.find?_eq_none]
  intro x hx
  obtain ⟨j, hj⟩ := List.getElem?_of_mem hx
  rw [hd j x hj]; simp
set_option maxHeartbeats 3200000 in
set_option maxRecDepth 100000 in
theorem r15window_any {w : World} {c : R15C} {s : R15V} {m : Nat} (k : RCore w c s m) (hrl : s.RS.length ≤ 140737488351232) (key : ByteArray) :
    Calls Tryz.prog 44 #[.pointer (some ⟨c.hb, 0, none⟩), .string key] w fun e w' => e = .returned (.pointer ((findR s.RS key).map (fun x => ⟨x.p, 0, none⟩))) ∧ w' = w := by
  obtain ⟨c0, c1, c2, c3, c4, c5, c6, c7, c8⟩ := k.cells
  obtain ⟨p, cap, hrv, hcells⟩ := k.rowForm
  rw [hrv] at c6
  have HC := Lib.hid hcells
  obtain ⟨len, hlen⟩ : ∃ len, s.RS.length = len := ⟨_, rfl⟩
  rw [hlen] at c6 hrl
  have HLEN := Lib.hid hlen
  clear k hcells hrv hlen c0 c1 c2 c3 c4 c5 c7 c8
  go_enter Tryz.func44, Tryz.ntmps44
  go_wp2_with (fail)
  go_loopw [5] (fun i wr => ∃ n : Nat, n ≤ len ∧ i = .int .i64 n ∧ Hid (∀ j y, j < n → s.RS[j]? = some y → decide (y.key = key) = false) ∧ wr = w) (fun i _ => len - (intOf i).toNat)
  case atStart => exact ⟨0, Nat.zero_le _, rfl, Lib.hid (fun j y h => by omega), rfl⟩
  case round =>
    obtain ⟨n, hn, rfl, HD, hwr⟩ := hrel
    subst hwr
    by_cases hlt : n < len
    · have k0 : (0 : Int) ≤ n := by omega
      have k1 : (n : Int) < len := by omega
      obtain ⟨x, hx⟩ : ∃ x, s.RS[n]? = some x := ⟨_, List.getElem?_eq_getElem (by rw [HLEN.out]; exact hlt)⟩
      obtain ⟨g, rfl, hg, d0, d1⟩ := HC.out n x hx
      have HX := Lib.hid hx
      clear hx hg
      by_cases he : x.key = key
      · have hb : (x.key.toList == key.toList) = true := by rw [he]; simp
        have HL := Lib.hid (findR_at HX.out HD.out he)
        go_wp2_with (fail)
        go_ret
        exact ⟨by rw [HL.out]; rfl, rfl⟩
      · have hb : (x.key.toList == key.toList) = false := by rw [toList_decG]; exact decide_eq_false he
        have HDN := Lib.hid (show ∀ j y, j < n + 1 → s.RS[j]? = some y → decide (y.key = key) = false from fun j y hj hy => by
          by_cases h : j = n
          · subst h; rw [HX.out] at hy; cases hy; exact decide_eq_false he
          · exact HD.out j y (by omega) hy)
        clear he
        go_wp2_with (fail)
        exact ⟨⟨n + 1, by omega, by go_num, HDN, by first | trivial | rfl⟩, by first | (simp [intOf]; done) | (simp [intOf]; omega)⟩
    · have k1 : ¬ (n : Int) < len := by omega
      have HL := Lib.hid (findR_no (RS := s.RS) (s := key) (fun j y hy => HD.out j y (by have := (List.getElem?_eq_some_iff.1 hy).1; rw [HLEN.out] at this; omega) hy))
      go_wp2_with (fail)
      go_ret
      exact ⟨by rw [HL.out]; rfl, rfl⟩
set_option maxHeartbeats 1600000 in
theorem r15kept_any {w : World} {c : R15C} {s : R15V} {m : Nat} (k : RCore w c s m) :
    Calls Tryz.prog 13 #[.pointer (some ⟨c.hb, 0, none⟩)] w fun e w' => ∃ v', e = .returned v' ∧ w'.ownsRow w.heap.size 9 1 v' s.A.length ((s.A.map (·.1)).map Value.string) ∧ Below w.heap.size w w' := by
  obtain ⟨c0, c1, c2, c3, c4, c5, c6, c7, c8⟩ := k.cells
  have HK := Lib.hid (rkeys_any k.map)
  clear k c0 c1 c2 c3 c4 c6 c7 c8
  go_enter Tryz.func13, Tryz.ntmps13
  go_wp2_with (fail)
  refine HK.out.mono ?_
  rintro e w1 ⟨v', rfl, h1, h2⟩
  have H1 := Lib.hid h1
  have H2 := Lib.hid h2
  clear h1 h2
  go_wp2_with (fail)
  go_ret
  exact ⟨_, rfl, H1.out, H2.out⟩
end Go.Proofs.YtemlafbkkaloiaaGreat
namespace Go.Proofs.YtemlafbkkaloiaaGreat
open Go.RowKit
def used15 (c : R15C) (s : R15V) (at_ : Int) (key : ByteArray) : Int := match s.V key with | some ns => (winC (c.R.secs * 100000) 10 at_ ns).p | none => estN (sh15 c.R c.seed) (c.R.secs * 100000) at_ key s.sn
theorem RCore.sh {w : World} {c : R15C} {s : R15V} {m : Nat} (k : RCore w c s m) : ShapeOk (sh15 c.R c.seed) (c.R.secs * 100000) := by
  obtain ⟨_, ⟨h1, h2⟩, _⟩ := hot_parts k.fine
  have := k.s0
  have := k.s1
  constructor <;> (try simp only [sh15]) <;> omega
theorem findR_mem {RS : List RW} {k : ByteArray} {x : RW} (h : findR RS k = some x) : x ∈ RS ∧ x.key = k := by
  unfold findR at h
  exact ⟨List.mem_of_find?_eq_some h, by have := List.find?_some h; simpa using this⟩
set_option maxHeartbeats 3200000 in
theorem r15used_any {w : World} {c : R15C} {s : R15V} {m : Nat} (k : RCore w c s m) (hm : m ≤ 1000000) (hrl : s.RS.length ≤ 140737488351232) (at_ : Int) (h0 : s.last ≤ at_) (h1 : at_ ≤ 1152921504606846976) (key : ByteArray) (hk : key.size ≤ maxLen) :
    Calls Tryz.prog 45 #[.pointer (some ⟨c.hb, 0, none⟩), .int .i64 at_, .string key] w fun e w' => e = .returned (.int .i64 (used15 c s at_ key)) ∧ Below w.heap.size w w' := by
  have HW := Lib.hid (r15window_any k hrl key)
  have hl0 := k.l0
  unfold used15 R15V.V
  cases hf : findR s.RS key with
  | some x =>
    obtain ⟨hx, hxk⟩ := findR_mem hf
    obtain ⟨hw3, hxl, hxm⟩ := k.wins x hx
    rw [hf] at HW
    have HS := Lib.hid (w3sum_any hw3 at_ (by unfold lookW; rw [if_neg (by omega), if_neg (by omega)]) (by have := hw3.inv.len; omega))
    show Calls _ _ _ _ fun e w' => e = .returned (.int .i64 (winC (c.R.secs * 100000) 10 at_ x.notes).p) ∧ _
    obtain ⟨C, hC⟩ : ∃ C, winC (c.R.secs * 100000) 10 at_ x.notes = C := ⟨_, rfl⟩
    rw [hC] at HS ⊢
    obtain ⟨xp, xb, xd, xe, xr, xm⟩ := C
    unfold ctV at HS
    dsimp only [Option.map] at HS HW ⊢
    clear k hf hx hxk hw3 hxl hxm hC
    go_enter Tryz.func45, Tryz.ntmps45
    go_wp2_with (fail)
    refine HW.out.mono ?_
    rintro e wq ⟨rfl, hq⟩
    rw [hq]
    clear hq
    go_wp2_with (fail)
    refine HS.out.mono ?_
    rintro e w1 ⟨rfl, hb1⟩
    have hb2 : Below w1.heap.size w1 (w1.alloc (.cells #[.int .i64 xp, .int .i64 xb, .int .i64 xd, .int .i64 xe, .int .i64 xr, .int .i64 xm] 92)) := (Below.refl _ _).alloc (Nat.le_refl _) _
    have HB2 := Lib.hid (hb1.trans (hb2.mono hb1.size))
    clear hb1 hb2
    go_wp2_with (fail)
    go_ret
    exact ⟨rfl, HB2.out⟩
  | none =>
    rw [hf] at HW
    have HE := Lib.hid (r6est_any k.sk k.sh at_ key hk)
    have hls : lookS s.ls at_ = 0 := by have := k.lsl; unfold lookS; rw [if_neg (by omega), if_neg (by omega)]
    rw [hls, if_pos rfl] at HE
    obtain ⟨c0, c1, c2, c3, c4, c5, c6, c7, c8⟩ := k.cells
    dsimp only [Option.map] at HW ⊢
    generalize estN (sh15 c.R c.seed) (c.R.secs * 100000) at_ key s.sn = X at *
    clear k hf hls
    go_enter Tryz.func45, Tryz.ntmps45
    go_wp2_with (fail)
    refine HW.out.mono ?_
    rintro e wq ⟨rfl, hq⟩
    rw [hq]
    clear hq
    go_wp2_with (fail)
    refine HE.out.mono ?_
    rintro e w1 ⟨rfl, mm, hq⟩
    have HB := Lib.hid (show Below w.heap.size w w1 by rw [hq]; exact below_drewN (Below.refl _ _) _)
    clear hq
    go_wp2_with (fail)
    go_ret
    exact ⟨rfl, HB.out⟩
set_option maxHeartbeats 1600000 in
theorem r15look_any (q : Nat) (last at_ n : Int) (key : ByteArray) (w : World) (h : w.cell? ⟨q, 8, none⟩ = some (.int .i64 last)) :
    Calls Tryz.prog 65 #[.pointer (some ⟨q, 0, none⟩), .int .i64 at_, .string key, .int .i64 n] w fun e w' => e = .returned (.int .i64 (lookHE last at_ key n)) ∧ w' = w := by
  have he : lookHE last at_ key n = if at_ < 0 ∨ 1152921504606846976 < at_ ∨ n < 1 ∨ 1099511627776 < n then 2 else if 64 < (key.size : Int) then 5 else if at_ < last then 7 else 0 := by
    unfold lookHE badH hwE
    by_cases h1 : n < 1 ∨ 1099511627776 < n
    · have : (decide (n < 1) || decide (1099511627776 < n)) = true := by simpa using h1
      rw [if_pos this, if_pos (by omega)]
    · have : (decide (n < 1) || decide (1099511627776 < n)) = false := by simpa using h1
      rw [this]
      simp only [Bool.false_eq_true, if_false]
      by_cases h2 : at_ < 0 ∨ 1152921504606846976 < at_
      · rw [if_pos h2, if_pos (by omega)]
      · rw [if_neg h2]
        have h3 : ¬(at_ < 0 ∨ 1152921504606846976 < at_ ∨ n < 1 ∨ 1099511627776 < n) := by omega
        rw [if_neg h3]
  rw [he]
  clear he
  by_cases h1 : at_ < 0 ∨ 1152921504606846976 < at_ ∨ n < 1 ∨ 1099511627776 < n
  · rw [if_pos h1]
    by_cases a1 : at_ < 0
    · clear h1
      go_enter Tryz.func65, Tryz.ntmps65
      go_wp2_with (fail)
      go_ret
      exact ⟨rfl, rfl⟩
    · by_cases a2 : 1152921504606846976 < at_
      · clear h1
        go_enter Tryz.func65, Tryz.ntmps65
        go_wp2_with (fail)
        go_ret
        exact ⟨rfl, rfl⟩
      · by_cases a3 : n < 1
        · clear h1
          go_enter Tryz.func65, Tryz.ntmps65
          go_wp2_with (fail)
          go_ret
          exact ⟨rfl, rfl⟩
        · have a4 : 1099511627776 < n := by omega
          clear h1
          go_enter Tryz.func65, Tryz.ntmps65
          go_wp2_with (fail)
          go_ret
          exact ⟨rfl, rfl⟩
  · rw [if_neg h1]
    have a1 : ¬ at_ < 0 := by omega
    have a2 : ¬ 1152921504606846976 < at_ := by omega
    have a3 : ¬ n < 1 := by omega
    have a4 : ¬ 1099511627776 < n := by omega
    clear h1
    by_cases b1 : 64 < (key.size : Int)
    · rw [if_pos b1]
      go_enter Tryz.func65, Tryz.ntmps65
      go_wp2_with (fail)
      go_ret
      exact ⟨rfl, rfl⟩
    · rw [if_neg b1]
      by_cases b2 : at_ < last
      · rw [if_pos b2]
        go_enter Tryz.func65, Tryz.ntmps65
        go_wp2_with (fail)
        go_ret
        exact ⟨rfl, rfl⟩
      · rw [if_neg b2]
        go_enter Tryz.func65, Tryz.ntmps65
        go_wp2_with (fail)
        go_ret
        exact ⟨rfl, rfl⟩
def look15B (c : R15C) (s : R15V) (at_ : Int) (key : ByteArray) (n : Int) : Bool := decide (lookHE s.last at_ key n = 0) && decide (used15 c s at_ key ≤ limI c.R key - n)
set_option maxHeartbeats 3200000 in
theorem r15Look_any {w : World} {c : R15C} {s : R15V} {m : Nat} (k : RCore w c s m) (hm : m ≤ 1000000) (hrl : s.RS.length ≤ 140737488351232) (hil : c.R.items.length ≤ 140737488351232) (at_ : Int) (key : ByteArray) (hk : key.size ≤ maxLen) (n : Int) :
    Calls Tryz.prog 35 #[.pointer (some ⟨c.hb, 0, none⟩), .int .i64 at_, .string key, .int .i64 n] w fun e w' => e = .returned (.tuple #[.bool (look15B c s at_ key n), .int .i64 (lookHE s.last at_ key n)]) ∧ Below w.heap.size w w' := by
  have HL := Lib.hid (r15look_any c.hb s.last at_ n key w k.cells.2.2.2.2.2.2.2.2)
  have hlb := limI_bd k.fine key
  unfold look15B
  by_cases hE : lookHE s.last at_ key n = 0
  · obtain ⟨⟨n0, n1⟩, hwe⟩ := lookHE_ok hE
    obtain ⟨a0, a1, a2, a3⟩ := hwE_ok hwe
    have HU := Lib.hid (r15used_any k hm hrl at_ a2 a1 key hk)
    have HLM := Lib.hid (fun wx (hb : Below w.heap.size w wx) => r15limit_any (k.below hb) hil key)
    rw [hE] at HL ⊢
    generalize used15 c s at_ key = U at *
    generalize limI c.R key = LM at *
    rw [decide_eq_true rfl, Bool.true_and]
    clear k hE hwe a0 a1 a2 a3
    go_enter Tryz.func35, Tryz.ntmps35
    go_wp2_with (fail)
    refine HL.out.mono ?_
    rintro e wq ⟨rfl, hq⟩
    rw [hq]
    clear hq
    go_wp2_with (fail)
    refine HU.out.mono ?_
    rintro e w1 ⟨rfl, hb1⟩
    have HB1 := Lib.hid hb1
    clear hb1
    go_wp2_with (fail)
    refine (HLM.out _ HB1.out).mono ?_
    rintro e wq ⟨rfl, hq⟩
    rw [hq]
    clear hq
    go_wp2_with (fail)
    go_ret2
    exact ⟨rfl, HB1.out⟩
  · rw [decide_eq_false hE, Bool.false_and]
    obtain ⟨E, hEE⟩ : ∃ E, lookHE s.last at_ key n = E := ⟨_, rfl⟩
    rw [hEE] at HL hE ⊢
    have hne : (E != 0) = true := by simpa using hE
    clear k hE hEE
    go_enter Tryz.func35, Tryz.ntmps35
    go_wp2_with (fail)
    refine HL.out.mono ?_
    rintro e wq ⟨rfl, hq⟩
    rw [hq]
    clear hq
    go_wp2_with (fail)
    go_ret2
    exact ⟨rfl, Below.refl _ _⟩
set_option maxHeartbeats 3200000 in
theorem r15Used_any {w : World} {c : R15C} {s : R15V} {m : Nat} (k : RCore w c s m) (hm : m ≤ 1000000) (hrl : s.RS.length ≤ 140737488351232) (at_ : Int) (key : ByteArray) (hk : key.size ≤ maxLen) :
    Calls Tryz.prog 34 #[.pointer (some ⟨c.hb, 0, none⟩), .int .i64 at_, .string key] w fun e w' => e = .returned (.tuple #[.int .i64 (if hwE s.last at_ key = 0 then used15 c s at_ key else 0), .int .i64 (hwE s.last at_ key)]) ∧ Below w.heap.size w w' := by
  have HL := Lib.hid (r15look_any c.hb s.last at_ 1 key w k.cells.2.2.2.2.2.2.2.2)
  rw [show lookHE s.last at_ key 1 = hwE s.last at_ key from rfl] at HL
  by_cases hE : hwE s.last at_ key = 0
  · obtain ⟨a0, a1, a2, a3⟩ := hwE_ok hE
    have HU := Lib.hid (r15used_any k hm hrl at_ a2 a1 key hk)
    rw [hE] at HL ⊢
    rw [if_pos rfl]
    generalize used15 c s at_ key = U at *
    clear k hE a0 a1 a2 a3
    go_enter Tryz.func34, Tryz.ntmps34
    go_wp2_with (fail)
    refine HL.out.mono ?_
    rintro e wq ⟨rfl, hq⟩
    rw [hq]
    clear hq
    go_wp2_with (fail)
    refine HU.out.mono ?_
    rintro e w1 ⟨rfl, hb1⟩
    have HB1 := Lib.hid hb1
    clear hb1
    go_wp2_with (fail)
    go_ret2
    exact ⟨rfl, HB1.out⟩
  · rw [if_neg hE]
    obtain ⟨E, hEE⟩ : ∃ E, hwE s.last at_ key = E := ⟨_, rfl⟩
    rw [hEE] at HL hE ⊢
    have hne : (E != 0) = true := by simpa using hE
    clear k hE hEE
    go_enter Tryz.func34, Tryz.ntmps34
    go_wp2_with (fail)
    refine HL.out.mono ?_
    rintro e wq ⟨rfl, hq⟩
    rw [hq]
    clear hq
    go_wp2_with (fail)
    go_ret2
    exact ⟨rfl, Below.refl _ _⟩
end Go.Proofs.YtemlafbkkaloiaaGreat
namespace Go.Proofs.YtemlafbkkaloiaaGreat
open Go.RowKit
structure R15At (w : World) (c : R15C) (s : R15V) (m : Nat) : Prop extends RCore w c s m where
  same : ∀ k, hasA s.A k = (findR s.RS k).isSome
theorem R15At.below {w w' : World} {c : R15C} {s : R15V} {m : Nat} (k : R15At w c s m) (hb : Below w.heap.size w w') : R15At w' c s m := ⟨k.toRCore.below hb, k.same⟩
structure T15 (w : World) (c : R15C) (s : R15V) (at_ : Int) (key : ByteArray) (n : Int) (m : Nat) (w' : World) (s' : R15V) : Prop where
  hot : R15At w' c s' (m + 2)
  off : Off (R15Own c s) w w'
  own : ∀ i, R15Own c s' i → R15Own c s i ∨ w.heap.size ≤ i
  err : lookHE s.last at_ key n ≠ 0 → s' = s
  no : lookHE s.last at_ key n = 0 → look15B c s at_ key n = false → s' = { s with last := at_ }
  last : look15B c s at_ key n = true → s'.last = at_ ∧ s'.ls = at_
  sn : look15B c s at_ key n = true → s'.sn = s.sn ++ newNotes at_ key [n]
  rows : look15B c s at_ key n = true → s'.A = rowsT c.N s.A key
  vals : look15B c s at_ key n = true → ∀ k, s'.V k = if k = key then some (((s.V key).getD (newW at_ [passH (used15 c s at_ key)])) ++ newW at_ [passH n]) else if (!hasA s.A key) && (wentA c.N s.A key && decide (k = goneA c.N s.A key)) then none else s.V k
theorem used15_bd {w : World} {c : R15C} {s : R15V} {m : Nat} (k : RCore w c s m) (at_ : Int) (key : ByteArray) : 0 ≤ used15 c s at_ key ∧ used15 c s at_ key ≤ 4611686018427387904 := by
  unfold used15 R15V.V
  cases hf : findR s.RS key with
  | some x =>
    have h := winC_right (b := c.R.secs * 100000) (B := 10) ((k.wins x (findR_mem hf).1).1.rgt) at_
    exact ⟨h.p0, h.p1⟩
  | none => exact estN_bd (fun x hx => by have := k.sk.fine x hx; omega)
theorem getA_put {n : Nat} {A : List (ByteArray × Int)} {key : ByteArray} (h : hasA A key = false) : getA (putA n A key 0) key = putA n A key 0 := by
  have hB : ∀ {B : List (ByteArray × Int)}, hasA B key = false → getA (B ++ [(key, 0)]) key = B ++ [(key, 0)] := fun {B} hb => by
    have h1 : hasA (B ++ [(key, 0)]) key = true := by unfold hasA; simp
    have h2 : ∀ p, p ∈ B → ¬ p.1 = key := fun p hp e => by
      have : hasA B key = true := hasA_mem.2 (List.mem_map.2 ⟨p, hp, e⟩)
      rw [hb] at this; cases this
    have h3 : delA (B ++ [(key, 0)]) key = B := by
      unfold delA
      rw [List.filter_append, List.filter_eq_self.2 (fun p hp => by simp [h2 p hp])]
      simp
    have h4 : valA (B ++ [(key, 0)]) key = 0 := by
      unfold valA
      rw [List.find?_append, List.find?_eq_none.2 (fun p hp => by simp [h2 p hp])]
      simp
    unfold getA
    rw [if_pos h1, h3, h4]
  unfold putA
  rw [if_neg (by rw [h]; simp)]
  split
  · refine hB ?_
    cases hh : hasA A.tail key with
    | false => rfl
    | true =>
      have := hasA_mem.1 hh
      have : hasA A key = true := hasA_mem.2 ((List.Sublist.map (·.1) (List.tail_sublist A)).subset this)
      rw [h] at this; cases this
  · exact hB h
theorem passH_raw (n : Int) : rawOf (passH n) = ⟨(passH n).p, 0, 0, 0, 0, none⟩ := rfl
def took (x : RW) (at_ n b : Int) (v : Value) : RW := ⟨x.key, x.p, v, at_, x.notes ++ [⟨at_, passH n⟩], addL b at_ (passH n) x.Lb⟩
theorem T15.of {w w5 w8 : World} {c : R15C} {s s5 : R15V} {m : Nat} {at_ n b : Int} {key : ByteArray} (k : R15At w c s m) (hB : look15B c s at_ key n = true) (h5 : RStep w w5 c s s5 (m + 1)) {x : RW} (hx : x ∈ s5.RS) (hxk : x.key = key) (hl5 : s5.last = at_) (hsn5 : s5.sn = s.sn)
    {mv' v' sv' : Value} (h8 : RStep w5 w8 c s5 { s5 with mv := mv', A := getA s5.A key, RS := updR s5.RS (took x at_ n b v'), ls := at_, sn := s5.sn ++ newNotes at_ key [n], sv := sv' } (m + 2))
    (hA : getA s5.A key = rowsT c.N s.A key) (hV : ∀ k, k ≠ key → s5.V k = if (!hasA s.A key) && (wentA c.N s.A key && decide (k = goneA c.N s.A key)) then none else s.V k) (hN : x.notes = (s.V key).getD (newW at_ [passH (used15 c s at_ key)])) (hsame : ∀ k, hasA s5.A k = (findR s5.RS k).isSome) :
    T15 w c s at_ key n m w8 { s5 with mv := mv', A := getA s5.A key, RS := updR s5.RS (took x at_ n b v'), ls := at_, sn := s5.sn ++ newNotes at_ key [n], sv := sv' } := by
  have hall := h5.trans h8
  have hE : lookHE s.last at_ key n = 0 := by unfold look15B at hB; simp only [Bool.and_eq_true, decide_eq_true_eq] at hB; exact hB.1
  have hfu : ∀ q, findR (updR s5.RS (took x at_ n b v')) q = if q = key then some (took x at_ n b v') else findR s5.RS q := fun q => by
    have h1 := findR_upd hx (y := took x at_ n b v') rfl q
    rw [h1]
    show (if q = x.key then _ else _) = _
    rw [hxk]
  refine ⟨⟨hall.core, fun q => ?_⟩, hall.off, hall.own, fun h => absurd hE h, fun _ h => absurd (hB.symm.trans h) (by decide), fun _ => ⟨hl5, rfl⟩, fun _ => (by show s5.sn ++ _ = _; rw [hsn5]), fun _ => hA, fun _ q => ?_⟩
  · show hasA (getA s5.A key) q = (findR (updR s5.RS (took x at_ n b v')) q).isSome
    rw [hfu]
    have hg : hasA (getA s5.A key) q = hasA s5.A q := by
      by_cases hh : hasA s5.A key = true
      · unfold getA
        rw [if_pos hh]
        by_cases e : q = key
        · rw [e, hh]; unfold hasA; simp
        · unfold hasA delA
          rw [List.any_append, List.any_filter]
          have h1 : ∀ p : ByteArray × Int, (!decide (p.1 = key) && decide (p.1 = q)) = decide (p.1 = q) := fun p => by
            by_cases e2 : p.1 = q
            · have : p.1 ≠ key := fun h => e (e2.symm.trans h)
              simp [e2, e]
            · simp [e2]
          simp only [h1]
          have : decide (key = q) = false := decide_eq_false (fun h => e h.symm)
          simp [this]
      · unfold getA; rw [if_neg hh]
    rw [hg]
    by_cases e : q = key
    · rw [if_pos e, e]
      have : (findR s5.RS key).isSome = true := by
        rw [← hsame]
        have h1 := hsame key
        cases hf : findR s5.RS key with
        | some y => rw [h1, hf]; rfl
        | none =>
          exfalso
          unfold findR at hf
          rw [List.find?_eq_none] at hf
          have := hf x hx
          simp [hxk] at this
      rw [hsame, this]; rfl
    · rw [if_neg e]; exact hsame q
  · show (findR (updR s5.RS (took x at_ n b v')) q).map (·.notes) = _
    rw [hfu]
    by_cases e : q = key
    · rw [if_pos e, if_pos e]
      show some (x.notes ++ [⟨at_, passH n⟩]) = _
      rw [hN]
      rfl
    · rw [if_neg e, if_neg e]
      exact hV q e
theorem info_rowR : (Tryz.prog.info? 85).map (fun i => (i.zero, i.size, i.bytes)) = some (some (.agg #[.string ⟨#[]⟩, .pointer none]), 2, 24) := by kernel_rfl
theorem cs_oneW (x : RW) : ∀ u ∈ x.cs, u.oneCell' = true := by
  intro u hu
  simp only [RW.cs, List.mem_cons, List.not_mem_nil, or_false] at hu
  rcases hu with rfl | rfl <;> rfl
theorem run_appendW {base : Nat} {w wr : World} {v : Value} {j : Nat} {L : List RW} (hown : wr.ownsRow base 85 2 v j (flatW L)) (hB : base ≤ w.heap.size) (hb : Below base w wr) (hj : j ≤ 1048576) (hL : L.length = j) (k : RW) (ty : TypeId) :
    ∃ g cap w', (Builtin.append_ #[74, 74] ty #[v, .slice (some ⟨wr.heap.size, 0, none⟩) 1 1]).run Tryz.prog (wr.alloc (.cells k.cs.toArray 85)) = .ok (.slice (some ⟨g, 0, none⟩) (j + 1) cap) w' ∧ w'.ownsRow base 85 2 (.slice (some ⟨g, 0, none⟩) (j + 1) cap) (j + 1) (flatW (L ++ [k])) ∧ Below base w w' := by
  obtain ⟨i0, hi, hz0, hz1, hz2⟩ := info_parts3 info_rowR
  obtain ⟨v', w', hr, h2, h3, h4⟩ := run_append_own (P := Tryz.prog) (wr.alloc (.cells k.cs.toArray 85)) base 74 ty 85 i0 _ 2 24 Tryz.underlying74 hi hz0 hz1 hz2 rfl (by decide) v j (flatW L) (hown.alloc _) ⟨wr.heap.size, 0, none⟩ 1 1 k.cs rfl (by
    intro j u hu
    have hn := new_blockS wr (.cells k.cs.toArray 85)
    rw [WideShapes.add_plain, Nat.zero_add]
    simp only [World.cell?, hn]
    simpa using hu) (cs_oneW k) (by unfold maxLen; omega) (by omega) (by have := hb.size; simp; omega)
  have hwr := hb.size
  rw [← flatW_snoc] at h2
  rcases h2.2 with ⟨_, hz⟩ | ⟨g, cap, cur, rfl, _⟩
  · omega
  · refine ⟨g, cap, w', hr, h2, (hb.alloc (by omega) _).grown h3 (by simp; omega) (fun k e => ?_)⟩
    exact (hown.lt k e).1
end Go.Proofs.YtemlafbkkaloiaaGreat
namespace Go.Proofs.YtemlafbkkaloiaaGreat
open Go.RowKit
theorem R15At.few {w : World} {c : R15C} {s : R15V} {m : Nat} (k : R15At w c s m) : s.RS.length ≤ 4096 := by
  have h := nodup_le (s.RS.map (·.key)) (s.A.map (·.1)) k.rk (fun q hq => by
    obtain ⟨x, hx, rfl⟩ := List.mem_map.1 hq
    have h1 := k.same x.key
    have h2 : (findR s.RS x.key).isSome = true := by
      cases hf : findR s.RS x.key with
      | some y => rfl
      | none =>
        unfold findR at hf
        rw [List.find?_eq_none] at hf
        have := hf x hx
        simp at this
    exact hasA_mem.1 (h1.trans h2))
  simp only [List.length_map] at h
  have := k.kl
  have := k.map.big.2
  omega
set_option maxHeartbeats 12800000 in
set_option maxRecDepth 100000 in
theorem r15take_err {w : World} {c : R15C} {s : R15V} {m : Nat} (k : R15At w c s m) (hm : m ≤ 900000) (hil : c.R.items.length ≤ 140737488351232) (at_ : Int) (key : ByteArray) (hk : key.size ≤ maxLen) (n : Int) (hE : lookHE s.last at_ key n ≠ 0) :
    Calls Tryz.prog 19 #[.pointer (some ⟨c.hb, 0, none⟩), .int .i64 at_, .string key, .int .i64 n] w fun e w' => ∃ s', e = .returned (.tuple #[.bool (look15B c s at_ key n), .int .i64 (lookHE s.last at_ key n)]) ∧ T15 w c s at_ key n m w' s' := by
  have HLK := Lib.hid (r15Look_any k.toRCore (by omega) (by have := k.few; omega) hil at_ key hk n)
  have K := Lib.hid k
  have HB := Lib.hid (show look15B c s at_ key n = false by unfold look15B; rw [decide_eq_false hE]; rfl)
  have HEN := Lib.hid hE
  rw [HB.out] at HLK ⊢
  obtain ⟨E, hEE⟩ : ∃ E, lookHE s.last at_ key n = E := ⟨_, rfl⟩
  have HEE := Lib.hid hEE
  rw [hEE] at HLK hE ⊢
  have hne : (E != 0) = true := by simpa using hE
  clear k hE hEE
  go_enter Tryz.func19, Tryz.ntmps19
  go_wp2_with (fail)
  refine HLK.out.mono ?_
  rintro e w1 ⟨rfl, hb1⟩
  have HB1 := Lib.hid hb1
  clear hb1 HLK
  go_wp2_with (fail)
  go_ret2
  exact ⟨s, rfl, ⟨(K.out.toRCore.below HB1.out).more (by omega), K.out.same⟩, Off.ofBelow HB1.out, fun i hi => Or.inl hi, fun _ => rfl, fun h => absurd h HEN.out, fun h => absurd (HB.out.symm.trans h) (by decide), fun h => absurd (HB.out.symm.trans h) (by decide), fun h => absurd (HB.out.symm.trans h) (by decide), fun h => absurd (HB.out.symm.trans h) (by decide)⟩
set_option maxHeartbeats 12800000 in
set_option maxRecDepth 100000 in
theorem r15take_no {w : World} {c : R15C} {s : R15V} {m : Nat} (k : R15At w c s m) (hm : m ≤ 900000) (hil : c.R.items.length ≤ 140737488351232) (at_ : Int) (key : ByteArray) (hk : key.size ≤ maxLen) (n : Int) (hE : lookHE s.last at_ key n = 0) (hB : look15B c s at_ key n = false) :
    Calls Tryz.prog 19 #[.pointer (some ⟨c.hb, 0, none⟩), .int .i64 at_, .string key, .int .i64 n] w fun e w' => ∃ s', e = .returned (.tuple #[.bool (look15B c s at_ key n), .int .i64 (lookHE s.last at_ key n)]) ∧ T15 w c s at_ key n m w' s' := by
  have HLK := Lib.hid (r15Look_any k.toRCore (by omega) (by have := k.few; omega) hil at_ key hk n)
  have K := Lib.hid k
  have ha : (1 ≤ n ∧ n ≤ 1099511627776) ∧ 0 ≤ at_ ∧ at_ ≤ 1152921504606846976 ∧ s.last ≤ at_ := by
    obtain ⟨hn1, hw1⟩ := lookHE_ok hE
    obtain ⟨a0, a1, a2, a3⟩ := hwE_ok hw1
    exact ⟨hn1, a0, a1, a2⟩
  have HA := Lib.hid ha
  have HEN := Lib.hid hE
  have HBB := Lib.hid hB
  rw [hE, hB] at HLK
  rw [hE, hB]
  clear hE hB k ha
  go_enter Tryz.func19, Tryz.ntmps19
  go_wp2_with (fail)
  refine HLK.out.mono ?_
  rintro e w1 ⟨rfl, hb1⟩
  have HB1 := Lib.hid hb1
  have k1 := K.out.toRCore.below hb1
  have c8 := k1.cells.2.2.2.2.2.2.2.2
  have f8 := k1.frozen 8
  have HS := Lib.hid (RStep.last k1 HA.out.2.2.2 HA.out.2.2.1)
  clear hb1 HLK k1
  go_wp2_with (fail)
  go_ret2
  have hst := (RStep.below K.out.toRCore HB1.out).trans HS.out
  exact ⟨_, rfl, ⟨hst.core.more (by omega), K.out.same⟩, hst.off, hst.own, fun h => absurd HEN.out h, fun _ _ => rfl, fun h => absurd (HBB.out.symm.trans h) (by decide), fun h => absurd (HBB.out.symm.trans h) (by decide), fun h => absurd (HBB.out.symm.trans h) (by decide), fun h => absurd (HBB.out.symm.trans h) (by decide)⟩
set_option maxHeartbeats 12800000 in
set_option maxRecDepth 100000 in
theorem r15take_old {w : World} {c : R15C} {s : R15V} {m : Nat} (k : R15At w c s m) (hm : m ≤ 900000) (hil : c.R.items.length ≤ 140737488351232) (at_ : Int) (key : ByteArray) (hk : key.size ≤ maxLen) (n : Int) (hE : lookHE s.last at_ key n = 0) (hB : look15B c s at_ key n = true) (x5 : RW) (hf : findR s.RS key = some x5) :
    Calls Tryz.prog 19 #[.pointer (some ⟨c.hb, 0, none⟩), .int .i64 at_, .string key, .int .i64 n] w fun e w' => ∃ s', e = .returned (.tuple #[.bool (look15B c s at_ key n), .int .i64 (lookHE s.last at_ key n)]) ∧ T15 w c s at_ key n m w' s' := by
  have HLK := Lib.hid (r15Look_any k.toRCore (by omega) (by have := k.few; omega) hil at_ key hk n)
  have K := Lib.hid k
  have ha : (1 ≤ n ∧ n ≤ 1099511627776) ∧ 0 ≤ at_ ∧ at_ ≤ 1152921504606846976 ∧ s.last ≤ at_ := by
    obtain ⟨hn1, hw1⟩ := lookHE_ok hE
    obtain ⟨a0, a1, a2, a3⟩ := hwE_ok hw1
    exact ⟨hn1, a0, a1, a2⟩
  have HA := Lib.hid ha
  have HEN := Lib.hid hE
  have HBB := Lib.hid hB
  rw [hE, hB] at HLK
  rw [hE, hB]
  have HF := Lib.hid hf
  have HM := Lib.hid hm
  clear hE hB k ha
  go_enter Tryz.func19, Tryz.ntmps19
  go_wp2_with (fail)
  refine HLK.out.mono ?_
  rintro e w1 ⟨rfl, hb1⟩
  have HB1 := Lib.hid hb1
  have k1 := K.out.toRCore.below hb1
  have c8 := k1.cells.2.2.2.2.2.2.2.2
  have f8 := k1.frozen 8
  have HS := Lib.hid (RStep.last k1 HA.out.2.2.2 HA.out.2.2.1)
  clear hb1 HLK k1
  have HWN := Lib.hid (r15window_any HS.out.core (by have := K.out.few; show s.RS.length ≤ _; omega) key)
  go_wp2_with (fail)
  obtain ⟨w2, hw2⟩ : ∃ w2, w1.setCell ⟨c.hb, 8, none⟩ (.int .i64 at_) = w2 := ⟨_, rfl⟩
  rw [hw2] at HS HWN ⊢
  clear hw2 c8 f8
  refine HWN.out.mono ?_
  rintro e wq ⟨rfl, hq⟩
  rw [hq]
  clear hq HWN
  rw [HF.out]
  dsimp only [Option.map]
  obtain ⟨s5, hs5⟩ : ∃ s5, ({ s with last := at_ } : R15V) = s5 := ⟨_, rfl⟩
  have H5 := Lib.hid (show RStep w w2 c s s5 (m + 1) from by
    have h := (RStep.below K.out.toRCore HB1.out).trans HS.out
    rw [hs5] at h
    exact ⟨h.core.more (by omega), h.off, h.own⟩)
  have K5 := Lib.hid H5.out.core
  have hx := findR_mem HF.out
  have X5 := Lib.hid (show x5 ∈ s5.RS ∧ x5.key = key ∧ x5.last ≤ at_ by rw [← hs5]; exact ⟨hx.1, hx.2, by have := (K.out.wins x5 hx.1).2.1; have := HA.out.2.2.2; omega⟩)
  have S5 := Lib.hid (show s5.last = at_ ∧ s5.sn = s.sn ∧ s5.ls ≤ at_ by rw [← hs5]; exact ⟨rfl, rfl, by have := K.out.lsl; have := HA.out.2.2.2; show s.ls ≤ at_; omega⟩)
  have hhas : hasA s.A key = true := by rw [K.out.same, HF.out]; rfl
  have FIN := Lib.hid (show getA s5.A key = rowsT c.N s.A key ∧ (∀ q, q ≠ key → s5.V q = if (!hasA s.A key) && (wentA c.N s.A key && decide (q = goneA c.N s.A key)) then none else s.V q) ∧ x5.notes = (s.V key).getD (newW at_ [passH (used15 c s at_ key)]) ∧ (∀ q, hasA s5.A q = (findR s5.RS q).isSome) by
    rw [← hs5]
    refine ⟨?_, fun q _ => ?_, ?_, K.out.same⟩
    · unfold rowsT; rw [if_pos hhas]
    · rw [hhas]; rfl
    · unfold R15V.V; rw [HF.out]; rfl)
  clear hs5 hx hhas HS HF HB1 hf hm
  obtain ⟨w5, hw5⟩ : ∃ w5, w2 = w5 := ⟨_, rfl⟩
  rw [hw5] at H5 K5 ⊢
  clear hw5
  have c5 := K5.out.cells.2.2.2.2.2.1
  have HGT := Lib.hid (rget_any K5.out.map K5.out.kn key)
  go_wp2_with (fail)
  refine HGT.out.mono ?_
  rintro e w6 ⟨rfl, mv', h6, ho6, hn6⟩
  have HS6 := Lib.hid (RStep.map K5.out h6 (getA_nodup K5.out.kn key) (Nat.le_trans (getA_len key) K5.out.kl) ho6 hn6)
  clear h6 ho6 hn6 HGT c5
  have hb6 : Below w6.heap.size w6 (w6.alloc (ctO (passH n) 92)) := (Below.refl _ _).alloc (Nat.le_refl _) _
  have HS6b := Lib.hid (RStep.below HS6.out.core hb6)
  have HAD := Lib.hid (w3add_any ((HS6.out.core.wins x5 X5.out.1).1.below hb6) at_ (by have h1 := X5.out.2.2; have h2 := HA.out; unfold lookW; rw [if_neg (by omega), if_neg (by omega)]) (passH n) (passH_right (by have := HA.out; omega) (by have := HA.out; omega)) (passH_raw n) (by have h1 := (HS6.out.core.wins x5 X5.out.1).1.inv.len; have h2 := (HS6.out.core.wins x5 X5.out.1).2.2; have h3 := HM.out; omega) w6.heap.size 0 1 (by have := (HS6.out.core.wins x5 X5.out.1).1.lt (Or.inl rfl); omega) (cts_oneH (w := w6) (passH n)))
  unfold ctO passH at HAD HS6b
  dsimp only at HAD HS6b
  clear hb6
  go_wp2_with (fail)
  refine HAD.out.mono ?_
  intro e w7 had
  obtain ⟨rfl, v', hw7, ho7, hn7⟩ := had
  have HS7 := Lib.hid (RStep.win (n := m + 2) HS6b.out.core X5.out.1 (y := took x5 at_ n (c.R.secs * 100000) v') (by omega) rfl rfl hw7 (by show at_ ≤ s5.last; rw [S5.out.1]; exact Int.le_refl _) (by
    show (x5.notes ++ [_]).length ≤ _
    have := (K5.out.wins x5 X5.out.1).2.2
    rw [List.length_append]
    show x5.notes.length + 1 ≤ _
    omega) ho7 hn7)
  have c7 := HS7.out.core.cells.2.2.2.2.2.2.2.1
  clear hw7 ho7 hn7 HAD
  have hb7 : Below w7.heap.size w7 (w7.alloc (.cells #[.int .i64 n] 3)) := (Below.refl _ _).alloc (Nat.le_refl _) _
  have HS7b := Lib.hid (RStep.below HS7.out.core hb7)
  have HSA := Lib.hid (r6add_any HS7b.out.core.sk HS7b.out.core.sh at_ key hk (some ⟨w7.heap.size, 0, none⟩) 1 1 [n] rfl (by omega) (ints_oneH w7 n) (fun _ g off e => by
    cases e
    intro ho
    have := HS7.out.core.lt (Or.inr (Or.inl ho))
    omega) (by have h1 := HS7b.out.core.skf; have h3 := HM.out; omega))
  have HAE := Lib.hid (show addE s5.ls at_ [n] = 0 from addE_one (by have h1 := S5.out.2.2; have h2 := HA.out; unfold lookS; rw [if_neg (by omega), if_neg (by omega)]) (by have := HA.out; omega) (by have := HA.out; omega))
  clear hb7
  go_wp2_with (fail)
  refine HSA.out.mono ?_
  intro e w8 h8
  have he8 := h8.err
  obtain ⟨sv', hr8, ho8, hn8⟩ := h8.yes HAE.out
  rw [show addE _ at_ [n] = 0 from HAE.out] at he8
  subst he8
  have HS8 := Lib.hid (RStep.sk (n := m + 2) HS7b.out.core hr8 (by show at_ ≤ s5.last; rw [S5.out.1]; exact Int.le_refl _) (Nat.le_refl _) (by
    show (s5.sn ++ newNotes at_ key [n]).length ≤ _
    have := K5.out.skf
    rw [List.length_append]
    show s5.sn.length + 1 ≤ _
    omega) ho8 hn8)
  clear h8 hr8 ho8 hn8 HSA c7
  go_wp2_with (fail)
  go_ret2
  have h58 := (((HS6.out.trans HS6b.out).trans HS7.out).trans HS7b.out).trans HS8.out
  exact ⟨_, rfl, T15.of K.out HBB.out H5.out X5.out.1 X5.out.2.1 S5.out.1 S5.out.2.1 h58 FIN.out.1 FIN.out.2.1 FIN.out.2.2.1 FIN.out.2.2.2⟩
end Go.Proofs.YtemlafbkkaloiaaGreat
namespace Go.Proofs.YtemlafbkkaloiaaGreat
open Go.RowKit
def keepR (W : Bool) (G : ByteArray) (x : RW) : Bool := !(W && decide (x.key = G))
theorem findR_keep (RS : List RW) (W : Bool) (G q : ByteArray) : findR (RS.filter (keepR W G)) q = if (W && decide (q = G)) = true then none else findR RS q := by
  cases W with
  | true =>
    have : RS.filter (keepR true G) = delR RS G := by unfold delR; congr 1
    rw [this, findR_del]
    by_cases e : q = G
    · rw [if_pos e, if_pos (by simp [e])]
    · rw [if_neg e, if_neg (by simp [e])]
  | false =>
    have : RS.filter (keepR false G) = RS := List.filter_eq_self.2 (fun x _ => rfl)
    rw [this, if_neg (by simp)]
theorem RCore.addRow {w7 : World} {c : R15C} {s6 : R15V} {m Z A3 A5 : Nat} (k7 : RCore w7 c s6 m) (hz : A5 ≤ Z) (hown6 : ∀ i, R15Own c s6 i → (i < A3 ∨ A5 ≤ i) ∧ i < Z) (hits6 : ∀ i, c.iv.ownBlock = some i → (i < A3 ∨ A5 ≤ i) ∧ i < Z) {y0 : RW} (hy : ∀ i, R3Own y0.p y0.v i → A3 ≤ i ∧ i < A5) {rv' : Value} (h35 : A3 ≤ Z) {K : RW → Bool}
    (hw0 : W3At w7 y0.p (c.R.secs * 100000) y0.last y0.v y0.notes y0.Lb) (hl0 : y0.last ≤ s6.last) (hn0 : y0.notes.length ≤ m + 1) (hkey : ∀ x, x ∈ s6.RS → x.key ≠ y0.key) (hrow : w7.ownsRow Z 85 2 rv' (s6.RS.filter K ++ [y0]).length (flatW (s6.RS.filter K ++ [y0]))) :
    RCore (w7.setCell ⟨c.hb, 6, none⟩ rv') c { s6 with rv := rv', RS := s6.RS.filter K ++ [y0] } (m + 1) ∧ ∀ i, R15Own c { s6 with rv := rv', RS := s6.RS.filter K ++ [y0] } i → R15Own c s6 i ∨ A3 ≤ i := by
  obtain ⟨col, hc⟩ := k7.col
  have hsub : ∀ x, x ∈ s6.RS.filter K → x ∈ s6.RS := fun x hx => (List.mem_filter.1 hx).1
  have hy0 := hy y0.p (Or.inl rfl)
  have hcf : ∀ i, R15Own c s6 i → (if A3 ≤ i ∧ i < A5 then 6 + y0.p else if Z ≤ i then 3 else col i) = col i := fun i hi => by
    obtain ⟨h1, h2⟩ := hown6 i hi
    rw [if_neg (by omega), if_neg (by omega)]
  have hrow0 : w7.ownsRow 0 85 2 rv' (s6.RS.filter K ++ [y0]).length (flatW (s6.RS.filter K ++ [y0])) := ⟨hrow.1, by
    rcases hrow.2 with h | ⟨g, cap, cur, e, hb, r⟩
    · exact Or.inl h
    · exact Or.inr ⟨g, cap, cur, e, Nat.zero_le _, r⟩⟩
  refine ⟨RStep.rows k7 (Nat.le_succ m) hrow0 (fun x hx => ?_) ?_ ?_ (col := fun i => if A3 ≤ i ∧ i < A5 then 6 + y0.p else if Z ≤ i then 3 else col i) ⟨fun i hi => ?_, fun i hi => ?_, fun i hi => ?_, ?_, fun i hi => ?_, fun x hx i hi => ?_⟩, fun i hi => ?_⟩
  · rcases List.mem_append.1 hx with hx | hx
    · have h := k7.wins x (hsub x hx)
      exact ⟨h.1, h.2.1, Nat.le_succ_of_le h.2.2⟩
    · obtain rfl := List.mem_singleton.1 hx
      exact ⟨hw0, hl0, hn0⟩
  · rw [List.map_append, List.nodup_append]
    refine ⟨List.Sublist.nodup (List.Sublist.map _ List.filter_sublist) k7.ps, by simp, fun a ha b hb => ?_⟩
    obtain ⟨x, hx, rfl⟩ := List.mem_map.1 ha
    have hb : b = y0.p := by simpa using hb
    rw [hb]
    have h1 := (hown6 x.p (Or.inr (Or.inr (Or.inr (Or.inr ⟨x, hsub x hx, Or.inl rfl⟩))))).1
    omega
  · rw [List.map_append, List.nodup_append]
    refine ⟨List.Sublist.nodup (List.Sublist.map _ List.filter_sublist) k7.rk, by simp, fun a ha b hb => ?_⟩
    obtain ⟨x, hx, rfl⟩ := List.mem_map.1 ha
    have hb : b = y0.key := by simpa using hb
    rw [hb]
    exact hkey x (hsub x hx)
  · show (if A3 ≤ i ∧ i < A5 then 6 + y0.p else if Z ≤ i then 3 else col i) = _
    rw [hcf i (Or.inl hi)]; exact hc.map i hi
  · show (if A3 ≤ i ∧ i < A5 then 6 + y0.p else if Z ≤ i then 3 else col i) = _
    rw [hcf i (Or.inr (Or.inl hi))]; exact hc.sk i hi
  · have := (hrow.lt i hi).1
    show (if A3 ≤ i ∧ i < A5 then 6 + y0.p else if Z ≤ i then 3 else col i) = _
    rw [if_neg (by omega), if_pos this]
  · show (if A3 ≤ c.hb ∧ c.hb < A5 then 6 + y0.p else if Z ≤ c.hb then 3 else col c.hb) = _
    rw [hcf c.hb (Or.inr (Or.inr (Or.inl rfl)))]; exact hc.head
  · show (if A3 ≤ i ∧ i < A5 then 6 + y0.p else if Z ≤ i then 3 else col i) = _
    obtain ⟨h1, h2⟩ := hits6 i hi
    rw [if_neg (by omega), if_neg (by omega)]; exact hc.items i hi
  · show (if A3 ≤ i ∧ i < A5 then 6 + y0.p else if Z ≤ i then 3 else col i) = _
    rcases List.mem_append.1 hx with hx | hx
    · rw [hcf i (Or.inr (Or.inr (Or.inr (Or.inr ⟨x, hsub x hx, hi⟩))))]; exact hc.wins x (hsub x hx) i hi
    · obtain rfl := List.mem_singleton.1 hx
      rw [if_pos (hy i hi)]
  · rcases hi with h | h | h | h | ⟨x, hx, h⟩
    · exact Or.inl (Or.inl h)
    · exact Or.inl (Or.inr (Or.inl h))
    · exact Or.inl (Or.inr (Or.inr (Or.inl h)))
    · exact Or.inr (by have := (hrow.lt i h).1; omega)
    · rcases List.mem_append.1 hx with hx | hx
      · exact Or.inl (Or.inr (Or.inr (Or.inr (Or.inr ⟨x, hsub x hx, h⟩))))
      · obtain rfl := List.mem_singleton.1 hx
        exact Or.inr (hy i h).1
theorem filter_snoc {K : RW → Bool} {RS : List RW} {j : Nat} {x : RW} (h : RS[j]? = some x) : (RS.take (j + 1)).filter K = if K x then (RS.take j).filter K ++ [x] else (RS.take j).filter K := by
  have hk := (List.getElem?_eq_some_iff.1 h).1
  have hx := (List.getElem?_eq_some_iff.1 h).2
  rw [List.take_succ_eq_append_getElem hk, List.filter_append, hx]
  by_cases hi : K x = true
  · rw [if_pos hi, List.filter_cons, if_pos hi]; rfl
  · rw [if_neg hi, List.filter_cons, if_neg hi]; simp
end Go.Proofs.YtemlafbkkaloiaaGreat
namespace Go.Proofs.YtemlafbkkaloiaaGreat
open Go.RowKit
set_option maxHeartbeats 12800000 in
set_option maxRecDepth 100000 in
theorem r15take_new_false {w : World} {c : R15C} {s : R15V} {m : Nat} (k : R15At w c s m) (hm : m ≤ 900000) (hil : c.R.items.length ≤ 140737488351232) (at_ : Int) (key : ByteArray) (hk : key.size ≤ maxLen) (n : Int) (hE : lookHE s.last at_ key n = 0) (hB : look15B c s at_ key n = true) (hf : findR s.RS key = none) (hW : wentA c.N s.A key = false) :
    Calls Tryz.prog 19 #[.pointer (some ⟨c.hb, 0, none⟩), .int .i64 at_, .string key, .int .i64 n] w fun e w' => ∃ s', e = .returned (.tuple #[.bool (look15B c s at_ key n), .int .i64 (lookHE s.last at_ key n)]) ∧ T15 w c s at_ key n m w' s' := by
  have HLK := Lib.hid (r15Look_any k.toRCore (by omega) (by have := k.few; omega) hil at_ key hk n)
  have K := Lib.hid k
  have ha : (1 ≤ n ∧ n ≤ 1099511627776) ∧ 0 ≤ at_ ∧ at_ ≤ 1152921504606846976 ∧ s.last ≤ at_ := by
    obtain ⟨hn1, hw1⟩ := lookHE_ok hE
    obtain ⟨a0, a1, a2, a3⟩ := hwE_ok hw1
    exact ⟨hn1, a0, a1, a2⟩
  have HA := Lib.hid ha
  have HEN := Lib.hid hE
  have HBB := Lib.hid hB
  rw [hE, hB] at HLK
  rw [hE, hB]
  have HF := Lib.hid hf
  have HM := Lib.hid hm
  have HWW := Lib.hid hW
  have HU0 := Lib.hid (used15_bd k.toRCore at_ key)
  obtain ⟨_, ⟨sc0, sc1⟩, _⟩ := hot_parts k.fine
  have hWm : c.R.secs * 100000 * 10 = c.R.secs * 1000000 := by omega
  clear hE hB k ha
  go_enter Tryz.func19, Tryz.ntmps19
  go_wp2_with (fail)
  refine HLK.out.mono ?_
  rintro e w1 ⟨rfl, hb1⟩
  have HB1 := Lib.hid hb1
  have k1 := K.out.toRCore.below hb1
  have c8 := k1.cells.2.2.2.2.2.2.2.2
  have f8 := k1.frozen 8
  have HS := Lib.hid (RStep.last k1 HA.out.2.2.2 HA.out.2.2.1)
  clear hb1 HLK k1
  have HWN := Lib.hid (r15window_any HS.out.core (by have := K.out.few; show s.RS.length ≤ _; omega) key)
  go_wp2_with (fail)
  obtain ⟨w2, hw2⟩ : ∃ w2, w1.setCell ⟨c.hb, 8, none⟩ (.int .i64 at_) = w2 := ⟨_, rfl⟩
  rw [hw2] at HS HWN ⊢
  clear hw2 c8 f8
  refine HWN.out.mono ?_
  rintro e wq ⟨rfl, hq⟩
  rw [hq]
  clear hq HWN
  rw [HF.out]
  dsimp only [Option.map]
  have HUS := Lib.hid (r15used_any HS.out.core (by have := HM.out; omega) (by have := K.out.few; show s.RS.length ≤ _; omega) at_ (Int.le_refl _) HA.out.2.2.1 key hk)
  rw [show used15 c { s with last := at_ } at_ key = used15 c s at_ key from rfl] at HUS
  obtain ⟨U, hU⟩ : ∃ U, used15 c s at_ key = U := ⟨_, rfl⟩
  have HUU := Lib.hid hU
  rw [hU] at HUS HU0
  clear hU
  go_wp2_with (fail)
  refine HUS.out.mono ?_
  rintro e w3 ⟨rfl, hb3⟩
  have HB3 := Lib.hid hb3
  have c3 := (HS.out.core.below hb3).cells.2.2.2.1
  have HNW := Lib.hid (w3new_any (c.R.secs * 100000) (by omega) (by omega) w3)
  have HMD := Lib.hid (w3_made w3 (b := c.R.secs * 100000) (by omega) (by omega))
  rw [hWm] at HNW
  clear hb3 HUS
  go_wp2_with (fail)
  refine HNW.out.mono ?_
  rintro e w4 ⟨rfl, hq⟩
  have hm4 := HMD.out
  rw [← hq] at hm4
  obtain ⟨P, hP⟩ : ∃ P, w3.heap.size = P := ⟨_, rfl⟩
  have HP := Lib.hid hP
  rw [hP] at hm4 ⊢
  have HW4 := Lib.hid hm4.1
  have HB4 := Lib.hid (show Below P w3 w4 by rw [← hP]; have := hm4.2; rw [← hP] at this; exact this)
  clear hq hm4 hP HNW HMD c3
  have hb4 : Below w4.heap.size w4 (w4.alloc (ctO (passH U) 92)) := (Below.refl _ _).alloc (Nat.le_refl _) _
  have HB4b := Lib.hid hb4
  have HAD0 := Lib.hid (w3add_any (HW4.out.below hb4) at_ (by have h2 := HA.out; unfold lookW; rw [if_neg (by omega), if_neg (by omega)]) (passH U) (passH_right HU0.out.1 HU0.out.2) (passH_raw U) (by simp) w4.heap.size 0 1 (by have := HW4.out.lt (Or.inl rfl); omega) (cts_oneH (w := w4) (passH U)))
  unfold ctO passH at HAD0 HB4b
  dsimp only at HAD0 HB4b
  clear hb4
  go_wp2_with (fail)
  refine HAD0.out.mono ?_
  intro e w5 had
  obtain ⟨rfl, v5, hw5, ho5, hn5⟩ := had
  have hPlt : P ≤ w4.heap.size := by have := HW4.out.lt (Or.inl rfl); omega
  have HB5 := Lib.hid (show Below P w3 w5 from (HB4.out.trans (HB4b.out.mono hPlt)).trans (ho5.below (Nat.le_trans hPlt HB4b.out.size) (fun i hi e => by
    rcases e with rfl | e
    · omega
    · simp [Value.ownBlock] at e)))
  have HW5 := Lib.hid hw5
  have HN5 := Lib.hid (show ∀ i, R3Own P v5 i → P ≤ i ∧ i < w5.heap.size from fun i hi => ⟨by
    rcases hn5 i hi with h | h
    · rcases h with rfl | h
      · exact Nat.le_refl _
      · simp [Value.ownBlock] at h
    · have := HB4b.out.size; omega, hw5.lt hi⟩)
  have HBP := Lib.hid (show Below w2.heap.size w2 w5 from HB3.out.trans (HB5.out.mono (by have := HB3.out.size; have := HP.out; omega)))
  have HK5 := Lib.hid (HS.out.core.below HBP.out)
  have c5 := HK5.out.cells.2.2.2.2.2.1
  have HPU := Lib.hid (rput_any HK5.out.map HK5.out.kn HK5.out.kl key 0)
  rw [show goneA c.N ({ s with last := at_ } : R15V).A key = goneA c.N s.A key from rfl, show wentA c.N ({ s with last := at_ } : R15V).A key = false from hW] at HPU
  obtain ⟨G, hG⟩ : ∃ G, goneA c.N s.A key = G := ⟨_, rfl⟩
  have HGG := Lib.hid hG
  rw [hG] at HPU
  clear hw5 ho5 hn5 HAD0 hPlt hG HB4 HB4b HW4
  go_wp2_with (fail)
  refine HPU.out.mono ?_
  rintro e w6 ⟨rfl, mv6, h6, ho6, hn6⟩
  have HS6 := Lib.hid (RStep.map HK5.out h6 (putA_nodup HK5.out.kn key 0) (putA_len (by have := HK5.out.map.big.1; omega) HK5.out.kl key 0) ho6 hn6)
  have HW6 := Lib.hid (HW5.out.kept (w' := w6) (fun i hi => ho6.block i (HN5.out i hi).2 (fun e => by
    have h1 := (HN5.out i hi).1
    have h2 := (HS.out.core.map.lt e).1
    have h3 := HB3.out.size
    have h4 := HP.out
    omega)))
  clear h6 ho6 hn6 HPU c5
  obtain ⟨pr_, capr, hrv, hrc⟩ := HS6.out.core.rowForm
  have c6 := HS6.out.core.cells.2.2.2.2.2.2.1
  rw [hrv] at c6
  obtain ⟨len, hlen⟩ : ∃ len, s.RS.length = len := ⟨_, rfl⟩
  have HLEN := Lib.hid hlen
  have hlf : len ≤ 4096 := by rw [← hlen]; exact K.out.few
  rw [show ({ s with last := at_, mv := mv6, A := putA c.N s.A key 0 } : R15V).RS.length = len from hlen] at c6
  have HC6 := Lib.hid c6
  have HRC := Lib.hid hrc
  have HHB := Lib.hid HS6.out.core.hbLt
  obtain ⟨Z, hZ⟩ : ∃ Z, w6.heap.size = Z := ⟨_, rfl⟩
  have HZ := Lib.hid hZ
  clear hrv hrc hlen
  go_wp2_with (fail)
  clear c6
  go_loopw [17, 18] (fun rv i wr => ∃ j : Nat, j ≤ len ∧ i = .int .i64 j ∧ Hid (wr.ownsRow Z 85 2 rv ((s.RS.take j).filter (keepR false G)).length (flatW ((s.RS.take j).filter (keepR false G)))) ∧ Hid (Below Z w6 wr)) (fun _ i _ => len - (intOf i).toNat)
  case atStart => exact ⟨0, Nat.zero_le _, rfl, Lib.hid (by simpa [flatW] using World.ownsRow_nil (w := w6) Z 85 2), Lib.hid (Below.refl _ _)⟩
  case round =>
    rename World => wr
    obtain ⟨j, hj, rfl, HO, HBR⟩ := hrel
    have hzl : ∀ i, i < w6.heap.size → i < Z := fun i hi => by omega
    have c6 := (HBR.out.cell (p := ⟨c.hb, 6, none⟩) (hzl _ HHB.out)).trans HC6.out
    by_cases hlt : j < len
    · have k0 : (0 : Int) ≤ j := by omega
      have k1 : (j : Int) < len := by omega
      obtain ⟨x, hx⟩ : ∃ x, s.RS[j]? = some x := ⟨_, List.getElem?_eq_getElem (by rw [HLEN.out]; exact hlt)⟩
      obtain ⟨g, rfl, hg, d0, d1⟩ := HRC.out j x hx
      have d0 := (HBR.out.cell (p := ⟨g, j * 2, none⟩) (hzl _ hg)).trans d0
      have d1 := (HBR.out.cell (p := ⟨g, j * 2 + 1, none⟩) (hzl _ hg)).trans d1
      have HFS := Lib.hid (filter_snoc (K := keepR false G) hx)
      have hfl : ((s.RS.take j).filter (keepR false G)).length ≤ 1048576 := by
        have h1 := List.length_filter_le (keepR false G) (s.RS.take j)
        rw [List.length_take] at h1
        omega
      clear hx hg hzl
      · have HKP := Lib.hid (show keepR false G x = true from rfl)
        obtain ⟨g8, cap8, w8, hr8, ho8, hb8⟩ := run_appendW HO.out (by rw [HZ.out]; exact Nat.le_refl _) HBR.out hfl rfl x 74
        rw [show x.cs = [.string x.key, .pointer (some ⟨x.p, 0, none⟩)] from rfl] at hr8
        have HR8 := Lib.hid hr8
        have HO8 := Lib.hid ho8
        have HB8 := Lib.hid hb8
        clear hr8 ho8 hb8
        go_wp2_with (at_builtin; refine wpList_append_run (by rfl) (.tmp 94) (.tmp 102) 74 74 (by rfl) (by rfl) (by rfl) (by rfl) HR8.out ?_)
        refine ⟨⟨j + 1, by omega, by go_num, ?_, HB8⟩, by first | (simp [intOf]; done) | (simp [intOf]; omega)⟩
        rw [HFS.out, HKP.out, if_pos rfl, List.length_append]
        exact HO8
    · have k1 : ¬ (j : Int) < len := by omega
      have hjl : s.RS.take j = s.RS := List.take_of_length_le (by rw [HLEN.out]; omega)
      rw [hjl] at HO
      clear hjl
      obtain ⟨x5, hx5⟩ : ∃ x5 : RW, (⟨key, P, v5, at_, [] ++ [⟨at_, passH U⟩], addL (c.R.secs * 100000) at_ (passH U) []⟩ : RW) = x5 := ⟨_, rfl⟩
      have hfl : (s.RS.filter (keepR false G)).length ≤ 1048576 := by
        have h1 := List.length_filter_le (keepR false G) s.RS
        rw [HLEN.out] at h1
        omega
      obtain ⟨g7, cap7, w7, hr7, ho7, hb7⟩ := run_appendW HO.out (by rw [HZ.out]; exact Nat.le_refl _) HBR.out hfl rfl x5 74
      have HXP := Lib.hid (show x5.p = P by rw [← hx5])
      rw [show x5.cs = [.string key, .pointer (some ⟨P, 0, none⟩)] by rw [← hx5]; rfl] at hr7
      have HR7 := Lib.hid hr7
      have HO7 := Lib.hid ho7
      have HB7 := Lib.hid (show Below w6.heap.size w6 w7 by rw [HZ.out]; exact hb7)
      have HX5 := Lib.hid hx5.symm
      have HK7 := Lib.hid (HS6.out.core.below HB7.out)
      have f6 := HK7.out.frozen 6
      have e6 := HK7.out.cells.2.2.2.2.2.2.1
      have e5 := HK7.out.cells.2.2.2.2.2.1
      clear hr7 ho7 hb7 hx5 hfl
      go_wp2_with (at_builtin; refine wpList_append_run (by rfl) (.tmp 105) (.tmp 109) 74 74 (by rfl) (by rfl) (by rfl) (by rfl) HR7.out ?_)
      have hadd := HK7.out.addRow (Z := Z) (A3 := P) (A5 := w5.heap.size) (y0 := x5) (K := keepR false G) (rv' := .slice (some ⟨g7, 0, none⟩) (((s.RS.filter (keepR false G)).length) + 1) cap7) (by have := HS6.out.off.size; rw [← HZ.out]; exact this) (fun i hi => by
        have hlt6 := HS6.out.core.lt hi
        rw [HZ.out] at hlt6
        refine ⟨?_, hlt6⟩
        rcases HS6.out.own i hi with h | h
        · have h1 := HS.out.core.lt h
          have h2 := HB3.out.size
          have h3 := HP.out
          exact Or.inl (by omega)
        · exact Or.inr h) (fun i hi => by
          have hit6 := (HS6.out.core.its.lt i hi).2
          rw [HZ.out] at hit6
          have h1 := (HS.out.core.its.lt i hi).2
          have h2 := HB3.out.size
          have h3 := HP.out
          exact ⟨Or.inl (by omega), hit6⟩) (fun i hi => by
          rw [HX5.out] at hi
          exact HN5.out i hi) (by
          have h1 := HB5.out.size
          have h2 := HS6.out.off.size
          have h3 := HP.out
          have h4 := HZ.out
          omega) (by rw [HX5.out]; exact HW6.out.below HB7.out) (by rw [HX5.out]; exact Int.le_refl _) (by rw [HX5.out]; show 1 ≤ m + 1; omega) (fun z hz e => by
          rw [HX5.out] at e
          have e : z.key = key := e
          have hz : z ∈ s.RS := hz
          have h1 := HF.out
          unfold findR at h1
          rw [List.find?_eq_none] at h1
          have := h1 z hz
          simp [e] at this) (by rw [List.length_append]; exact HO7.out)
      obtain ⟨s5, hs5⟩ : ∃ s5 : R15V, ({ s with last := at_, mv := mv6, A := putA c.N s.A key 0, rv := .slice (some ⟨g7, 0, none⟩) (((s.RS.filter (keepR false G)).length) + 1) cap7, RS := s.RS.filter (keepR false G) ++ [x5] } : R15V) = s5 := ⟨_, rfl⟩
      obtain ⟨w8, hw8⟩ : ∃ w8, w7.setCell ⟨c.hb, 6, none⟩ (.slice (some ⟨g7, 0, none⟩) (((s.RS.filter (keepR false G)).length) + 1) cap7) = w8 := ⟨_, rfl⟩
      have H5 := Lib.hid (show RStep w w8 c s s5 (m + 1) from by
        have h0 := ((RStep.below K.out.toRCore HB1.out).trans HS.out).trans (RStep.below HS.out.core HBP.out)
        have h1 := (h0.trans HS6.out).trans (RStep.below HS6.out.core HB7.out)
        have hoff : Off (fun i => i = c.hb) w7 w8 := by rw [← hw8]; exact (Off.refl (fun i => i = c.hb) w7).setCell (p := ⟨c.hb, 6, none⟩) (fun _ => rfl) _
        refine ⟨by rw [← hw8, ← hs5]; exact hadd.1, h1.off.trans hoff (fun i hi e => by rw [e]; exact Or.inr (Or.inr (Or.inl rfl))), fun i hi => ?_⟩
        rw [← hs5] at hi
        rcases hadd.2 i hi with h | h
        · exact h1.own i h
        · refine Or.inr ?_
          have h2 := HB1.out.size
          have h3 := HS.out.off.size
          have h4 := HB3.out.size
          have h5 := HP.out
          omega)
      have K5 := Lib.hid H5.out.core
      have X5 := Lib.hid (show x5 ∈ s5.RS ∧ x5.key = key ∧ x5.last ≤ at_ by rw [← hs5]; exact ⟨by show x5 ∈ s.RS.filter _ ++ [x5]; simp, by rw [HX5.out], by rw [HX5.out]; exact Int.le_refl _⟩)
      have S5 := Lib.hid (show s5.last = at_ ∧ s5.sn = s.sn ∧ s5.ls ≤ at_ by rw [← hs5]; exact ⟨rfl, rfl, by have := K.out.lsl; have := HA.out.2.2.2; show s.ls ≤ at_; omega⟩)
      have hhas : hasA s.A key = false := by rw [K.out.same, HF.out]; rfl
      have hfr : ∀ q, findR (s.RS.filter (keepR false G) ++ [x5]) q = if q = key then some x5 else if (false && decide (q = G)) = true then none else findR s.RS q := fun q => by
        rw [findR_snoc, findR_keep, show x5.key = key by rw [HX5.out]]
        by_cases e : q = key
        · rw [if_pos e, if_pos e.symm, e, HF.out]
          split <;> rfl
        · rw [if_neg e, if_neg (show ¬ key = q from fun h => e h.symm)]
          cases hh : (if (false && decide (q = G)) = true then none else findR s.RS q) <;> rfl
      have FIN := Lib.hid (show getA s5.A key = rowsT c.N s.A key ∧ (∀ q, q ≠ key → s5.V q = if (!hasA s.A key) && (wentA c.N s.A key && decide (q = goneA c.N s.A key)) then none else s.V q) ∧ x5.notes = (s.V key).getD (newW at_ [passH (used15 c s at_ key)]) ∧ (∀ q, hasA s5.A q = (findR s5.RS q).isSome) by
        rw [← hs5]
        refine ⟨?_, fun q hq => ?_, ?_, fun q => ?_⟩
        · unfold rowsT; rw [hhas]; exact getA_put hhas
        · show (findR (s.RS.filter (keepR false G) ++ [x5]) q).map (·.notes) = _
          rw [hfr, if_neg hq, hhas, HWW.out, HGG.out]
          show _ = if (false && decide (q = G)) = true then none else s.V q
          split
          · rfl
          · rfl
        · rw [show s.V key = none by unfold R15V.V; rw [HF.out]; rfl, HUU.out, HX5.out]; rfl
        · show hasA (putA c.N s.A key 0) q = (findR (s.RS.filter (keepR false G) ++ [x5]) q).isSome
          rw [hasA_put K.out.map.big.1 K.out.kn, hfr, HWW.out, HGG.out]
          by_cases e : q = key
          · rw [if_pos e, decide_eq_true e]; rfl
          · rw [if_neg e, decide_eq_false e, Bool.false_or, K.out.same]
            by_cases e2 : (false && decide (q = G)) = true
            · rw [if_pos e2, e2]; simp
            · rw [if_neg e2, Bool.eq_false_iff.2 e2]; simp)
      rw [hw8]
      rw [← HXP.out]
      clear hs5 hw8 hadd hhas hfr f6 e6 e5 HK7 HO7 HR7 HB7 HW6 HS6 HK5 HBP HN5 HW5 HB5 HB3 HS HB1 HO HBR HC6 HRC c6
      obtain ⟨w5', hw5'⟩ : ∃ w5', w8 = w5' := ⟨_, rfl⟩
      rw [hw5'] at H5 K5 ⊢
      clear hw5'
      have c5 := K5.out.cells.2.2.2.2.2.1
      have HGT := Lib.hid (rget_any K5.out.map K5.out.kn key)
      try (go_wp2_with (fail))
      refine HGT.out.mono ?_
      rintro e w6 ⟨rfl, mv', h6, ho6, hn6⟩
      have HS6 := Lib.hid (RStep.map K5.out h6 (getA_nodup K5.out.kn key) (Nat.le_trans (getA_len key) K5.out.kl) ho6 hn6)
      clear h6 ho6 hn6 HGT c5
      have hb6 : Below w6.heap.size w6 (w6.alloc (ctO (passH n) 92)) := (Below.refl _ _).alloc (Nat.le_refl _) _
      have HS6b := Lib.hid (RStep.below HS6.out.core hb6)
      have HAD := Lib.hid (w3add_any ((HS6.out.core.wins x5 X5.out.1).1.below hb6) at_ (by have h1 := X5.out.2.2; have h2 := HA.out; unfold lookW; rw [if_neg (by omega), if_neg (by omega)]) (passH n) (passH_right (by have := HA.out; omega) (by have := HA.out; omega)) (passH_raw n) (by have h1 := (HS6.out.core.wins x5 X5.out.1).1.inv.len; have h2 := (HS6.out.core.wins x5 X5.out.1).2.2; have h3 := HM.out; omega) w6.heap.size 0 1 (by have := (HS6.out.core.wins x5 X5.out.1).1.lt (Or.inl rfl); omega) (cts_oneH (w := w6) (passH n)))
      unfold ctO passH at HAD HS6b
      dsimp only at HAD HS6b
      clear hb6
      go_wp2_with (fail)
      refine HAD.out.mono ?_
      intro e w7 had
      obtain ⟨rfl, v', hw7, ho7, hn7⟩ := had
      have HS7 := Lib.hid (RStep.win (n := m + 2) HS6b.out.core X5.out.1 (y := took x5 at_ n (c.R.secs * 100000) v') (by omega) rfl rfl hw7 (by show at_ ≤ s5.last; rw [S5.out.1]; exact Int.le_refl _) (by
        show (x5.notes ++ [_]).length ≤ _
        have := (K5.out.wins x5 X5.out.1).2.2
        rw [List.length_append]
        show x5.notes.length + 1 ≤ _
        omega) ho7 hn7)
      have c7 := HS7.out.core.cells.2.2.2.2.2.2.2.1
      clear hw7 ho7 hn7 HAD
      have hb7 : Below w7.heap.size w7 (w7.alloc (.cells #[.int .i64 n] 3)) := (Below.refl _ _).alloc (Nat.le_refl _) _
      have HS7b := Lib.hid (RStep.below HS7.out.core hb7)
      have HSA := Lib.hid (r6add_any HS7b.out.core.sk HS7b.out.core.sh at_ key hk (some ⟨w7.heap.size, 0, none⟩) 1 1 [n] rfl (by omega) (ints_oneH w7 n) (fun _ g off e => by
        cases e
        intro ho
        have := HS7.out.core.lt (Or.inr (Or.inl ho))
        omega) (by have h1 := HS7b.out.core.skf; have h3 := HM.out; omega))
      have HAE := Lib.hid (show addE s5.ls at_ [n] = 0 from addE_one (by have h1 := S5.out.2.2; have h2 := HA.out; unfold lookS; rw [if_neg (by omega), if_neg (by omega)]) (by have := HA.out; omega) (by have := HA.out; omega))
      clear hb7
      go_wp2_with (fail)
      refine HSA.out.mono ?_
      intro e w8 h8
      have he8 := h8.err
      obtain ⟨sv', hr8, ho8, hn8⟩ := h8.yes HAE.out
      rw [show addE _ at_ [n] = 0 from HAE.out] at he8
      subst he8
      have HS8 := Lib.hid (RStep.sk (n := m + 2) HS7b.out.core hr8 (by show at_ ≤ s5.last; rw [S5.out.1]; exact Int.le_refl _) (Nat.le_refl _) (by
        show (s5.sn ++ newNotes at_ key [n]).length ≤ _
        have := K5.out.skf
        rw [List.length_append]
        show s5.sn.length + 1 ≤ _
        omega) ho8 hn8)
      clear h8 hr8 ho8 hn8 HSA c7
      go_wp2_with (fail)
      go_ret2
      have h58 := (((HS6.out.trans HS6b.out).trans HS7.out).trans HS7b.out).trans HS8.out
      exact ⟨_, rfl, T15.of K.out HBB.out H5.out X5.out.1 X5.out.2.1 S5.out.1 S5.out.2.1 h58 FIN.out.1 FIN.out.2.1 FIN.out.2.2.1 FIN.out.2.2.2⟩
set_option maxHeartbeats 12800000 in
set_option maxRecDepth 100000 in
theorem r15take_new_true {w : World} {c : R15C} {s : R15V} {m : Nat} (k : R15At w c s m) (hm : m ≤ 900000) (hil : c.R.items.length ≤ 140737488351232) (at_ : Int) (key : ByteArray) (hk : key.size ≤ maxLen) (n : Int) (hE : lookHE s.last at_ key n = 0) (hB : look15B c s at_ key n = true) (hf : findR s.RS key = none) (hW : wentA c.N s.A key = true) :
    Calls Tryz.prog 19 #[.pointer (some ⟨c.hb, 0, none⟩), .int .i64 at_, .string key, .int .i64 n] w fun e w' => ∃ s', e = .returned (.tuple #[.bool (look15B c s at_ key n), .int .i64 (lookHE s.last at_ key n)]) ∧ T15 w c s at_ key n m w' s' := by
  have HLK := Lib.hid (r15Look_any k.toRCore (by omega) (by have := k.few; omega) hil at_ key hk n)
  have K := Lib.hid k
  have ha : (1 ≤ n ∧ n ≤ 1099511627776) ∧ 0 ≤ at_ ∧ at_ ≤ 1152921504606846976 ∧ s.last ≤ at_ := by
    obtain ⟨hn1, hw1⟩ := lookHE_ok hE
    obtain ⟨a0, a1, a2, a3⟩ := hwE_ok hw1
    exact ⟨hn1, a0, a1, a2⟩
  have HA := Lib.hid ha
  have HEN := Lib.hid hE
  have HBB := Lib.hid hB
  rw [hE, hB] at HLK
  rw [hE, hB]
  have HF := Lib.hid hf
  have HM := Lib.hid hm
  have HWW := Lib.hid hW
  have HU0 := Lib.hid (used15_bd k.toRCore at_ key)
  obtain ⟨_, ⟨sc0, sc1⟩, _⟩ := hot_parts k.fine
  have hWm : c.R.secs * 100000 * 10 = c.R.secs * 1000000 := by omega
  clear hE hB k ha
  go_enter Tryz.func19, Tryz.ntmps19
  go_wp2_with (fail)
  refine HLK.out.mono ?_
  rintro e w1 ⟨rfl, hb1⟩
  have HB1 := Lib.hid hb1
  have k1 := K.out.toRCore.below hb1
  have c8 := k1.cells.2.2.2.2.2.2.2.2
  have f8 := k1.frozen 8
  have HS := Lib.hid (RStep.last k1 HA.out.2.2.2 HA.out.2.2.1)
  clear hb1 HLK k1
  have HWN := Lib.hid (r15window_any HS.out.core (by have := K.out.few; show s.RS.length ≤ _; omega) key)
  go_wp2_with (fail)
  obtain ⟨w2, hw2⟩ : ∃ w2, w1.setCell ⟨c.hb, 8, none⟩ (.int .i64 at_) = w2 := ⟨_, rfl⟩
  rw [hw2] at HS HWN ⊢
  clear hw2 c8 f8
  refine HWN.out.mono ?_
  rintro e wq ⟨rfl, hq⟩
  rw [hq]
  clear hq HWN
  rw [HF.out]
  dsimp only [Option.map]
  have HUS := Lib.hid (r15used_any HS.out.core (by have := HM.out; omega) (by have := K.out.few; show s.RS.length ≤ _; omega) at_ (Int.le_refl _) HA.out.2.2.1 key hk)
  rw [show used15 c { s with last := at_ } at_ key = used15 c s at_ key from rfl] at HUS
  obtain ⟨U, hU⟩ : ∃ U, used15 c s at_ key = U := ⟨_, rfl⟩
  have HUU := Lib.hid hU
  rw [hU] at HUS HU0
  clear hU
  go_wp2_with (fail)
  refine HUS.out.mono ?_
  rintro e w3 ⟨rfl, hb3⟩
  have HB3 := Lib.hid hb3
  have c3 := (HS.out.core.below hb3).cells.2.2.2.1
  have HNW := Lib.hid (w3new_any (c.R.secs * 100000) (by omega) (by omega) w3)
  have HMD := Lib.hid (w3_made w3 (b := c.R.secs * 100000) (by omega) (by omega))
  rw [hWm] at HNW
  clear hb3 HUS
  go_wp2_with (fail)
  refine HNW.out.mono ?_
  rintro e w4 ⟨rfl, hq⟩
  have hm4 := HMD.out
  rw [← hq] at hm4
  obtain ⟨P, hP⟩ : ∃ P, w3.heap.size = P := ⟨_, rfl⟩
  have HP := Lib.hid hP
  rw [hP] at hm4 ⊢
  have HW4 := Lib.hid hm4.1
  have HB4 := Lib.hid (show Below P w3 w4 by rw [← hP]; have := hm4.2; rw [← hP] at this; exact this)
  clear hq hm4 hP HNW HMD c3
  have hb4 : Below w4.heap.size w4 (w4.alloc (ctO (passH U) 92)) := (Below.refl _ _).alloc (Nat.le_refl _) _
  have HB4b := Lib.hid hb4
  have HAD0 := Lib.hid (w3add_any (HW4.out.below hb4) at_ (by have h2 := HA.out; unfold lookW; rw [if_neg (by omega), if_neg (by omega)]) (passH U) (passH_right HU0.out.1 HU0.out.2) (passH_raw U) (by simp) w4.heap.size 0 1 (by have := HW4.out.lt (Or.inl rfl); omega) (cts_oneH (w := w4) (passH U)))
  unfold ctO passH at HAD0 HB4b
  dsimp only at HAD0 HB4b
  clear hb4
  go_wp2_with (fail)
  refine HAD0.out.mono ?_
  intro e w5 had
  obtain ⟨rfl, v5, hw5, ho5, hn5⟩ := had
  have hPlt : P ≤ w4.heap.size := by have := HW4.out.lt (Or.inl rfl); omega
  have HB5 := Lib.hid (show Below P w3 w5 from (HB4.out.trans (HB4b.out.mono hPlt)).trans (ho5.below (Nat.le_trans hPlt HB4b.out.size) (fun i hi e => by
    rcases e with rfl | e
    · omega
    · simp [Value.ownBlock] at e)))
  have HW5 := Lib.hid hw5
  have HN5 := Lib.hid (show ∀ i, R3Own P v5 i → P ≤ i ∧ i < w5.heap.size from fun i hi => ⟨by
    rcases hn5 i hi with h | h
    · rcases h with rfl | h
      · exact Nat.le_refl _
      · simp [Value.ownBlock] at h
    · have := HB4b.out.size; omega, hw5.lt hi⟩)
  have HBP := Lib.hid (show Below w2.heap.size w2 w5 from HB3.out.trans (HB5.out.mono (by have := HB3.out.size; have := HP.out; omega)))
  have HK5 := Lib.hid (HS.out.core.below HBP.out)
  have c5 := HK5.out.cells.2.2.2.2.2.1
  have HPU := Lib.hid (rput_any HK5.out.map HK5.out.kn HK5.out.kl key 0)
  rw [show goneA c.N ({ s with last := at_ } : R15V).A key = goneA c.N s.A key from rfl, show wentA c.N ({ s with last := at_ } : R15V).A key = true from hW] at HPU
  obtain ⟨G, hG⟩ : ∃ G, goneA c.N s.A key = G := ⟨_, rfl⟩
  have HGG := Lib.hid hG
  rw [hG] at HPU
  clear hw5 ho5 hn5 HAD0 hPlt hG HB4 HB4b HW4
  go_wp2_with (fail)
  refine HPU.out.mono ?_
  rintro e w6 ⟨rfl, mv6, h6, ho6, hn6⟩
  have HS6 := Lib.hid (RStep.map HK5.out h6 (putA_nodup HK5.out.kn key 0) (putA_len (by have := HK5.out.map.big.1; omega) HK5.out.kl key 0) ho6 hn6)
  have HW6 := Lib.hid (HW5.out.kept (w' := w6) (fun i hi => ho6.block i (HN5.out i hi).2 (fun e => by
    have h1 := (HN5.out i hi).1
    have h2 := (HS.out.core.map.lt e).1
    have h3 := HB3.out.size
    have h4 := HP.out
    omega)))
  clear h6 ho6 hn6 HPU c5
  obtain ⟨pr_, capr, hrv, hrc⟩ := HS6.out.core.rowForm
  have c6 := HS6.out.core.cells.2.2.2.2.2.2.1
  rw [hrv] at c6
  obtain ⟨len, hlen⟩ : ∃ len, s.RS.length = len := ⟨_, rfl⟩
  have HLEN := Lib.hid hlen
  have hlf : len ≤ 4096 := by rw [← hlen]; exact K.out.few
  rw [show ({ s with last := at_, mv := mv6, A := putA c.N s.A key 0 } : R15V).RS.length = len from hlen] at c6
  have HC6 := Lib.hid c6
  have HRC := Lib.hid hrc
  have HHB := Lib.hid HS6.out.core.hbLt
  obtain ⟨Z, hZ⟩ : ∃ Z, w6.heap.size = Z := ⟨_, rfl⟩
  have HZ := Lib.hid hZ
  clear hrv hrc hlen
  go_wp2_with (fail)
  clear c6
  go_loopw [17, 18] (fun rv i wr => ∃ j : Nat, j ≤ len ∧ i = .int .i64 j ∧ Hid (wr.ownsRow Z 85 2 rv ((s.RS.take j).filter (keepR true G)).length (flatW ((s.RS.take j).filter (keepR true G)))) ∧ Hid (Below Z w6 wr)) (fun _ i _ => len - (intOf i).toNat)
  case atStart => exact ⟨0, Nat.zero_le _, rfl, Lib.hid (by simpa [flatW] using World.ownsRow_nil (w := w6) Z 85 2), Lib.hid (Below.refl _ _)⟩
  case round =>
    rename World => wr
    obtain ⟨j, hj, rfl, HO, HBR⟩ := hrel
    have hzl : ∀ i, i < w6.heap.size → i < Z := fun i hi => by omega
    have c6 := (HBR.out.cell (p := ⟨c.hb, 6, none⟩) (hzl _ HHB.out)).trans HC6.out
    by_cases hlt : j < len
    · have k0 : (0 : Int) ≤ j := by omega
      have k1 : (j : Int) < len := by omega
      obtain ⟨x, hx⟩ : ∃ x, s.RS[j]? = some x := ⟨_, List.getElem?_eq_getElem (by rw [HLEN.out]; exact hlt)⟩
      obtain ⟨g, rfl, hg, d0, d1⟩ := HRC.out j x hx
      have d0 := (HBR.out.cell (p := ⟨g, j * 2, none⟩) (hzl _ hg)).trans d0
      have d1 := (HBR.out.cell (p := ⟨g, j * 2 + 1, none⟩) (hzl _ hg)).trans d1
      have HFS := Lib.hid (filter_snoc (K := keepR true G) hx)
      have hfl : ((s.RS.take j).filter (keepR true G)).length ≤ 1048576 := by
        have h1 := List.length_filter_le (keepR true G) (s.RS.take j)
        rw [List.length_take] at h1
        omega
      clear hx hg hzl
      by_cases he : x.key = G
      · have hb : (x.key.toList == G.toList) = true := by rw [he]; simp
        have hb2 : (x.key.toList != G.toList) = false := by rw [he]; simp
        have HKP := Lib.hid (show keepR true G x = false by unfold keepR; rw [decide_eq_true he]; rfl)
        clear he
        go_wp2_with (fail)
        refine ⟨⟨j + 1, by omega, by go_num, ?_, HBR⟩, by first | (simp [intOf]; done) | (simp [intOf]; omega)⟩
        rw [HFS.out, HKP.out, if_neg (by simp)]
        exact HO
      · have hb : (x.key.toList == G.toList) = false := by rw [toList_decG]; exact decide_eq_false he
        have hb2 : (x.key.toList != G.toList) = true := by show (!(x.key.toList == G.toList)) = true; rw [hb]; rfl
        have HKP := Lib.hid (show keepR true G x = true by unfold keepR; rw [decide_eq_false he]; rfl)
        clear he
        obtain ⟨g8, cap8, w8, hr8, ho8, hb8⟩ := run_appendW HO.out (by rw [HZ.out]; exact Nat.le_refl _) HBR.out hfl rfl x 74
        rw [show x.cs = [.string x.key, .pointer (some ⟨x.p, 0, none⟩)] from rfl] at hr8
        have HR8 := Lib.hid hr8
        have HO8 := Lib.hid ho8
        have HB8 := Lib.hid hb8
        clear hr8 ho8 hb8
        go_wp2_with (at_builtin; refine wpList_append_run (by rfl) (.tmp 94) (.tmp 102) 74 74 (by rfl) (by rfl) (by rfl) (by rfl) HR8.out ?_)
        refine ⟨⟨j + 1, by omega, by go_num, ?_, HB8⟩, by first | (simp [intOf]; done) | (simp [intOf]; omega)⟩
        rw [HFS.out, HKP.out, if_pos rfl, List.length_append]
        exact HO8
    · have k1 : ¬ (j : Int) < len := by omega
      have hjl : s.RS.take j = s.RS := List.take_of_length_le (by rw [HLEN.out]; omega)
      rw [hjl] at HO
      clear hjl
      obtain ⟨x5, hx5⟩ : ∃ x5 : RW, (⟨key, P, v5, at_, [] ++ [⟨at_, passH U⟩], addL (c.R.secs * 100000) at_ (passH U) []⟩ : RW) = x5 := ⟨_, rfl⟩
      have hfl : (s.RS.filter (keepR true G)).length ≤ 1048576 := by
        have h1 := List.length_filter_le (keepR true G) s.RS
        rw [HLEN.out] at h1
        omega
      obtain ⟨g7, cap7, w7, hr7, ho7, hb7⟩ := run_appendW HO.out (by rw [HZ.out]; exact Nat.le_refl _) HBR.out hfl rfl x5 74
      have HXP := Lib.hid (show x5.p = P by rw [← hx5])
      rw [show x5.cs = [.string key, .pointer (some ⟨P, 0, none⟩)] by rw [← hx5]; rfl] at hr7
      have HR7 := Lib.hid hr7
      have HO7 := Lib.hid ho7
      have HB7 := Lib.hid (show Below w6.heap.size w6 w7 by rw [HZ.out]; exact hb7)
      have HX5 := Lib.hid hx5.symm
      have HK7 := Lib.hid (HS6.out.core.below HB7.out)
      have f6 := HK7.out.frozen 6
      have e6 := HK7.out.cells.2.2.2.2.2.2.1
      have e5 := HK7.out.cells.2.2.2.2.2.1
      clear hr7 ho7 hb7 hx5 hfl
      go_wp2_with (at_builtin; refine wpList_append_run (by rfl) (.tmp 105) (.tmp 109) 74 74 (by rfl) (by rfl) (by rfl) (by rfl) HR7.out ?_)
      have hadd := HK7.out.addRow (Z := Z) (A3 := P) (A5 := w5.heap.size) (y0 := x5) (K := keepR true G) (rv' := .slice (some ⟨g7, 0, none⟩) (((s.RS.filter (keepR true G)).length) + 1) cap7) (by have := HS6.out.off.size; rw [← HZ.out]; exact this) (fun i hi => by
        have hlt6 := HS6.out.core.lt hi
        rw [HZ.out] at hlt6
        refine ⟨?_, hlt6⟩
        rcases HS6.out.own i hi with h | h
        · have h1 := HS.out.core.lt h
          have h2 := HB3.out.size
          have h3 := HP.out
          exact Or.inl (by omega)
        · exact Or.inr h) (fun i hi => by
          have hit6 := (HS6.out.core.its.lt i hi).2
          rw [HZ.out] at hit6
          have h1 := (HS.out.core.its.lt i hi).2
          have h2 := HB3.out.size
          have h3 := HP.out
          exact ⟨Or.inl (by omega), hit6⟩) (fun i hi => by
          rw [HX5.out] at hi
          exact HN5.out i hi) (by
          have h1 := HB5.out.size
          have h2 := HS6.out.off.size
          have h3 := HP.out
          have h4 := HZ.out
          omega) (by rw [HX5.out]; exact HW6.out.below HB7.out) (by rw [HX5.out]; exact Int.le_refl _) (by rw [HX5.out]; show 1 ≤ m + 1; omega) (fun z hz e => by
          rw [HX5.out] at e
          have e : z.key = key := e
          have hz : z ∈ s.RS := hz
          have h1 := HF.out
          unfold findR at h1
          rw [List.find?_eq_none] at h1
          have := h1 z hz
          simp [e] at this) (by rw [List.length_append]; exact HO7.out)
      obtain ⟨s5, hs5⟩ : ∃ s5 : R15V, ({ s with last := at_, mv := mv6, A := putA c.N s.A key 0, rv := .slice (some ⟨g7, 0, none⟩) (((s.RS.filter (keepR true G)).length) + 1) cap7, RS := s.RS.filter (keepR true G) ++ [x5] } : R15V) = s5 := ⟨_, rfl⟩
      obtain ⟨w8, hw8⟩ : ∃ w8, w7.setCell ⟨c.hb, 6, none⟩ (.slice (some ⟨g7, 0, none⟩) (((s.RS.filter (keepR true G)).length) + 1) cap7) = w8 := ⟨_, rfl⟩
      have H5 := Lib.hid (show RStep w w8 c s s5 (m + 1) from by
        have h0 := ((RStep.below K.out.toRCore HB1.out).trans HS.out).trans (RStep.below HS.out.core HBP.out)
        have h1 := (h0.trans HS6.out).trans (RStep.below HS6.out.core HB7.out)
        have hoff : Off (fun i => i = c.hb) w7 w8 := by rw [← hw8]; exact (Off.refl (fun i => i = c.hb) w7).setCell (p := ⟨c.hb, 6, none⟩) (fun _ => rfl) _
        refine ⟨by rw [← hw8, ← hs5]; exact hadd.1, h1.off.trans hoff (fun i hi e => by rw [e]; exact Or.inr (Or.inr (Or.inl rfl))), fun i hi => ?_⟩
        rw [← hs5] at hi
        rcases hadd.2 i hi with h | h
        · exact h1.own i h
        · refine Or.inr ?_
          have h2 := HB1.out.size
          have h3 := HS.out.off.size
          have h4 := HB3.out.size
          have h5 := HP.out
          omega)
      have K5 := Lib.hid H5.out.core
      have X5 := Lib.hid (show x5 ∈ s5.RS ∧ x5.key = key ∧ x5.last ≤ at_ by rw [← hs5]; exact ⟨by show x5 ∈ s.RS.filter _ ++ [x5]; simp, by rw [HX5.out], by rw [HX5.out]; exact Int.le_refl _⟩)
      have S5 := Lib.hid (show s5.last = at_ ∧ s5.sn = s.sn ∧ s5.ls ≤ at_ by rw [← hs5]; exact ⟨rfl, rfl, by have := K.out.lsl; have := HA.out.2.2.2; show s.ls ≤ at_; omega⟩)
      have hhas : hasA s.A key = false := by rw [K.out.same, HF.out]; rfl
      have hfr : ∀ q, findR (s.RS.filter (keepR true G) ++ [x5]) q = if q = key then some x5 else if (true && decide (q = G)) = true then none else findR s.RS q := fun q => by
        rw [findR_snoc, findR_keep, show x5.key = key by rw [HX5.out]]
        by_cases e : q = key
        · rw [if_pos e, if_pos e.symm, e, HF.out]
          split <;> rfl
        · rw [if_neg e, if_neg (show ¬ key = q from fun h => e h.symm)]
          cases hh : (if (true && decide (q = G)) = true then none else findR s.RS q) <;> rfl
      have FIN := Lib.hid (show getA s5.A key = rowsT c.N s.A key ∧ (∀ q, q ≠ key → s5.V q = if (!hasA s.A key) && (wentA c.N s.A key && decide (q = goneA c.N s.A key)) then none else s.V q) ∧ x5.notes = (s.V key).getD (newW at_ [passH (used15 c s at_ key)]) ∧ (∀ q, hasA s5.A q = (findR s5.RS q).isSome) by
        rw [← hs5]
        refine ⟨?_, fun q hq => ?_, ?_, fun q => ?_⟩
        · unfold rowsT; rw [hhas]; exact getA_put hhas
        · show (findR (s.RS.filter (keepR true G) ++ [x5]) q).map (·.notes) = _
          rw [hfr, if_neg hq, hhas, HWW.out, HGG.out]
          show _ = if (true && decide (q = G)) = true then none else s.V q
          split
          · rfl
          · rfl
        · rw [show s.V key = none by unfold R15V.V; rw [HF.out]; rfl, HUU.out, HX5.out]; rfl
        · show hasA (putA c.N s.A key 0) q = (findR (s.RS.filter (keepR true G) ++ [x5]) q).isSome
          rw [hasA_put K.out.map.big.1 K.out.kn, hfr, HWW.out, HGG.out]
          by_cases e : q = key
          · rw [if_pos e, decide_eq_true e]; rfl
          · rw [if_neg e, decide_eq_false e, Bool.false_or, K.out.same]
            by_cases e2 : (true && decide (q = G)) = true
            · rw [if_pos e2, e2]; simp
            · rw [if_neg e2, Bool.eq_false_iff.2 e2]; simp)
      rw [hw8]
      rw [← HXP.out]
      clear hs5 hw8 hadd hhas hfr f6 e6 e5 HK7 HO7 HR7 HB7 HW6 HS6 HK5 HBP HN5 HW5 HB5 HB3 HS HB1 HO HBR HC6 HRC c6
      obtain ⟨w5', hw5'⟩ : ∃ w5', w8 = w5' := ⟨_, rfl⟩
      rw [hw5'] at H5 K5 ⊢
      clear hw5'
      have c5 := K5.out.cells.2.2.2.2.2.1
      have HGT := Lib.hid (rget_any K5.out.map K5.out.kn key)
      try (go_wp2_with (fail))
      refine HGT.out.mono ?_
      rintro e w6 ⟨rfl, mv', h6, ho6, hn6⟩
      have HS6 := Lib.hid (RStep.map K5.out h6 (getA_nodup K5.out.kn key) (Nat.le_trans (getA_len key) K5.out.kl) ho6 hn6)
      clear h6 ho6 hn6 HGT c5
      have hb6 : Below w6.heap.size w6 (w6.alloc (ctO (passH n) 92)) := (Below.refl _ _).alloc (Nat.le_refl _) _
      have HS6b := Lib.hid (RStep.below HS6.out.core hb6)
      have HAD := Lib.hid (w3add_any ((HS6.out.core.wins x5 X5.out.1).1.below hb6) at_ (by have h1 := X5.out.2.2; have h2 := HA.out; unfold lookW; rw [if_neg (by omega), if_neg (by omega)]) (passH n) (passH_right (by have := HA.out; omega) (by have := HA.out; omega)) (passH_raw n) (by have h1 := (HS6.out.core.wins x5 X5.out.1).1.inv.len; have h2 := (HS6.out.core.wins x5 X5.out.1).2.2; have h3 := HM.out; omega) w6.heap.size 0 1 (by have := (HS6.out.core.wins x5 X5.out.1).1.lt (Or.inl rfl); omega) (cts_oneH (w := w6) (passH n)))
      unfold ctO passH at HAD HS6b
      dsimp only at HAD HS6b
      clear hb6
      go_wp2_with (fail)
      refine HAD.out.mono ?_
      intro e w7 had
      obtain ⟨rfl, v', hw7, ho7, hn7⟩ := had
      have HS7 := Lib.hid (RStep.win (n := m + 2) HS6b.out.core X5.out.1 (y := took x5 at_ n (c.R.secs * 100000) v') (by omega) rfl rfl hw7 (by show at_ ≤ s5.last; rw [S5.out.1]; exact Int.le_refl _) (by
        show (x5.notes ++ [_]).length ≤ _
        have := (K5.out.wins x5 X5.out.1).2.2
        rw [List.length_append]
        show x5.notes.length + 1 ≤ _
        omega) ho7 hn7)
      have c7 := HS7.out.core.cells.2.2.2.2.2.2.2.1
      clear hw7 ho7 hn7 HAD
      have hb7 : Below w7.heap.size w7 (w7.alloc (.cells #[.int .i64 n] 3)) := (Below.refl _ _).alloc (Nat.le_refl _) _
      have HS7b := Lib.hid (RStep.below HS7.out.core hb7)
      have HSA := Lib.hid (r6add_any HS7b.out.core.sk HS7b.out.core.sh at_ key hk (some ⟨w7.heap.size, 0, none⟩) 1 1 [n] rfl (by omega) (ints_oneH w7 n) (fun _ g off e => by
        cases e
        intro ho
        have := HS7.out.core.lt (Or.inr (Or.inl ho))
        omega) (by have h1 := HS7b.out.core.skf; have h3 := HM.out; omega))
      have HAE := Lib.hid (show addE s5.ls at_ [n] = 0 from addE_one (by have h1 := S5.out.2.2; have h2 := HA.out; unfold lookS; rw [if_neg (by omega), if_neg (by omega)]) (by have := HA.out; omega) (by have := HA.out; omega))
      clear hb7
      go_wp2_with (fail)
      refine HSA.out.mono ?_
      intro e w8 h8
      have he8 := h8.err
      obtain ⟨sv', hr8, ho8, hn8⟩ := h8.yes HAE.out
      rw [show addE _ at_ [n] = 0 from HAE.out] at he8
      subst he8
      have HS8 := Lib.hid (RStep.sk (n := m + 2) HS7b.out.core hr8 (by show at_ ≤ s5.last; rw [S5.out.1]; exact Int.le_refl _) (Nat.le_refl _) (by
        show (s5.sn ++ newNotes at_ key [n]).length ≤ _
        have := K5.out.skf
        rw [List.length_append]
        show s5.sn.length + 1 ≤ _
        omega) ho8 hn8)
      clear h8 hr8 ho8 hn8 HSA c7
      go_wp2_with (fail)
      go_ret2
      have h58 := (((HS6.out.trans HS6b.out).trans HS7.out).trans HS7b.out).trans HS8.out
      exact ⟨_, rfl, T15.of K.out HBB.out H5.out X5.out.1 X5.out.2.1 S5.out.1 S5.out.2.1 h58 FIN.out.1 FIN.out.2.1 FIN.out.2.2.1 FIN.out.2.2.2⟩
theorem r15take_any {w : World} {c : R15C} {s : R15V} {m : Nat} (k : R15At w c s m) (hm : m ≤ 900000) (hil : c.R.items.length ≤ 140737488351232) (at_ : Int) (key : ByteArray) (hk : key.size ≤ maxLen) (n : Int) :
    Calls Tryz.prog 19 #[.pointer (some ⟨c.hb, 0, none⟩), .int .i64 at_, .string key, .int .i64 n] w fun e w' => ∃ s', e = .returned (.tuple #[.bool (look15B c s at_ key n), .int .i64 (lookHE s.last at_ key n)]) ∧ T15 w c s at_ key n m w' s' := by
  by_cases hE : lookHE s.last at_ key n = 0
  · cases hB : look15B c s at_ key n with
    | false => have h := r15take_no k hm hil at_ key hk n hE hB; rw [hB] at h; exact h
    | true =>
      cases hf : findR s.RS key with
      | some x => have h := r15take_old k hm hil at_ key hk n hE hB x hf; rw [hB] at h; exact h
      | none =>
        cases hW : wentA c.N s.A key with
        | true => have h := r15take_new_true k hm hil at_ key hk n hE hB hf hW; rw [hB] at h; exact h
        | false => have h := r15take_new_false k hm hil at_ key hk n hE hB hf hW; rw [hB] at h; exact h
  · exact r15take_err k hm hil at_ key hk n hE
end Go.Proofs.YtemlafbkkaloiaaGreat
namespace Go.Proofs.YtemlafbkkaloiaaGreat
open Go.RowKit
theorem wp_append_runR {P : Program} (w : World) {o : Oper} {a : Act} {K : Act → World → Prop} {Q : Exit → Act → World → Prop} (s x : Operand) (t ty : TypeId)
    (ho : o.op = .call { callee := .builtin .append, args := #[s, x], argTypes := #[t, t] }) (hty : o.type = ty) {v u r : Value} {w' : World} (hs : a.eval s = v) (hx : a.eval x = u)
    (hrun : (Builtin.append_ #[t, t] ty #[v, u]).run P w = .ok r w') (h : K (a.put o.dst r) w') : o.wp P a w K Q := by
  subst hty
  unfold Oper.wp execOp
  simp only [ho, resolve, invoke, builtin, Sem.run_bind, Sem.run_pure, Result.andThen_ok, List.map_toArray, List.map_cons, List.map_nil, hs, hx, hrun]
  exact h
theorem flatI_one (L : List ItemS) : ∀ u ∈ flatI L, u.oneCell' = true := by
  intro u hu
  obtain ⟨l, hl, hu⟩ := List.mem_flatten.1 hu
  obtain ⟨k, _, rfl⟩ := List.mem_map.1 hl
  simp only [ItemS.cs, List.mem_cons, List.not_mem_nil, or_false] at hu
  rcases hu with rfl | rfl <;> rfl
theorem run_copyI {w : World} {R : HotS} (ok : HotOk w R) (ty : TypeId) :
    ∃ a cap w', (Builtin.append_ #[22, 22] ty #[.slice none 0 0, .slice R.ia R.il R.ic]).run Tryz.prog w = .ok (.slice a R.il cap) w' ∧ w'.ownsRow w.heap.size 52 2 (.slice a R.il cap) R.items.length (flatI R.items) ∧ Below w.heap.size w w' := by
  obtain ⟨i0, hi, hz0, hz1, hz2⟩ := info_parts3 info_itemH
  have hnil : w.ownsRow w.heap.size 52 2 (.slice none 0 0) 0 [] := World.ownsRow_nil _ _ _ _
  have hl := ok.l
  have hb := ok.b
  cases hia : R.ia with
  | none =>
    obtain ⟨h1, h2⟩ := ok.nil hia
    have h3 : R.items = [] := List.length_eq_zero_iff.1 (hl.trans h1)
    rw [h1, h2, h3]
    exact ⟨none, 0, w, run_append_owned_none (P := Tryz.prog) (w := w) (size := 2) w.heap.size 22 ty 52 i0 Tryz.underlying22 hi _ 0 [] hnil, hnil, Below.refl _ _⟩
  | some ad =>
    have hcells := rowsAt_cellsH (cs_len_itH R.items) (by decide) ok.at_ ad hia
    obtain ⟨v', w', hr, h2, h3, h4⟩ := run_append_own (P := Tryz.prog) w w.heap.size 22 ty 52 i0 _ 2 24 Tryz.underlying22 hi hz0 hz1 hz2 rfl (by decide) _ 0 [] hnil ad R.il R.ic (flatI R.items) (by unfold flatI; rw [flatten_len (cs_len_itH _), List.length_map, hl]) hcells (flatI_one _) (by unfold maxLen; omega) (by omega) (Nat.le_refl _)
    rw [Nat.zero_add, List.nil_append] at h2
    have hbel : Below w.heap.size w w' := (Below.refl _ _).grown h3 (Nat.le_refl _) (fun k e => by cases e)
    rcases h2.2 with ⟨rfl, hz⟩ | ⟨g, cap, cur, rfl, r1, r2, r3⟩
    · refine ⟨none, 0, w', by rw [hz] at hr ⊢; exact hr, by rw [hl, hz]; rw [hz] at h2; exact h2, hbel⟩
    · exact ⟨_, cap, w', hr, by rw [hl]; exact h2, hbel⟩
structure New15 (w : World) (R : HotS) (keys seed : Int) (w' : World) (c : R15C) (s : R15V) : Prop where
  hot : R15At w' c s 0
  own : ∀ i, R15Own c s i → w.heap.size ≤ i
  items : ∀ i, c.iv.ownBlock = some i → w.heap.size ≤ i
  R : c.R = R
  N : (c.N : Int) = keys
  seed : c.seed = seed
  A : s.A = []
  RS : s.RS = []
  last : s.last = 0
  ls : s.ls = 0
  sn : s.sn = []
structure New15Post (w : World) (R : HotS) (keys seed : Int) (e : Ending) (w' : World) : Prop where
  bel : Below w.heap.size w w'
  no : newHE R keys ≠ 0 → e = .returned (.tuple #[.pointer none, .int .i64 (newHE R keys)])
  yes : newHE R keys = 0 → ∃ c s, e = .returned (.tuple #[.pointer (some ⟨c.hb, 0, none⟩), .int .i64 0]) ∧ New15 w R keys seed w' c s
def s150 : R15V := ⟨.slice none 0 0, [], .slice none 0 0, [], 0, 0, [], .slice none 0 0⟩
theorem new15_made {w w9 w10 : World} {R : HotS} {keys seed : Int} {H mb sb : Nat} {v' : Value} (fine : hotE R = 0) (s0 : 0 ≤ seed) (s1 : seed ≤ 18446744073709551615) (hk : 1 ≤ keys)
    (h1 : w9.heap[H]? = some (.cells (r15Cells ⟨R, seed, H, mb, keys.toNat, sb, .slice none 0 0⟩ s150) 76)) (hm : RefM w9 mb keys.toNat (.slice none 0 0) []) (hs : R6At w9 sb (sh15 R seed) 0 (.slice none 0 0) []) (o1 : w.heap.size ≤ mb) (o2 : mb < sb) (o3 : sb < H)
    (hit : w10.ownsRow w9.heap.size 52 2 v' R.items.length (flatI R.items)) (hb : Below w9.heap.size w9 w10) :
    New15 w R keys seed (w10.setCell ⟨H, 4, none⟩ v') ⟨R, seed, H, mb, keys.toNat, sb, v'⟩ s150 := by
  have hH : H < w9.heap.size := (Array.getElem?_eq_some_iff.1 h1).1
  have hoth : ∀ i, i < w9.heap.size → i ≠ H → (w10.setCell ⟨H, 4, none⟩ v').heap[i]? = w9.heap[i]? := fun i hi hne => (heap_setCell_other w10 ⟨H, 4, none⟩ i _ hne).trans (hb.block i hi)
  have hnb : (Value.slice none 0 0).ownBlock = none := rfl
  refine ⟨⟨⟨?_, fine, ?_, ?_, by simp [s150], by simp [s150], World.ownsRow_nil _ _ _ _, fun x hx => by simp [s150] at hx, by simp [s150], by simp [s150], ?_, Int.le_refl _, by simp [s150], Int.le_refl _, by simp [s150], s0, s1, fun i => if i = mb then 1 else if i = sb then 2 else if i = H then 4 else 5, ?_⟩, fun k => rfl⟩, fun i hi => ?_, fun i hi => (by have := (hit.lt i hi).1; omega), rfl, by show ((keys.toNat : Nat) : Int) = keys; omega, rfl, rfl, rfl, rfl, rfl, rfl⟩
  · rw [heap_setCell_same w10 H 4 _ _ _ ((hb.block H hH).trans h1)]; rfl
  · have hr := rowKept3 (w' := w10.setCell ⟨H, 4, none⟩ v') hit (fun g e => heap_setCell_other w10 ⟨H, 4, none⟩ g _ (fun e2 => by
      have h5 := (hit.lt g e).1
      have e2 : g = H := e2
      omega))
    exact ⟨hr.1, by
      rcases hr.2 with h | ⟨g, cap, cur, e, hb, r⟩
      · exact Or.inl h
      · exact Or.inr ⟨g, cap, cur, e, Nat.zero_le _, r⟩⟩
  · refine hm.kept (fun i hi => ?_) ?_
    · rcases hi with rfl | hi
      · exact hoth i (by omega) (by omega)
      · simp [Value.ownBlock] at hi
    · have := hb.size; simp [World.setCell]; exact this
  · refine r6_kept hs (fun i hi => ?_)
    rcases hi with rfl | hi
    · exact hoth i (by omega) (by omega)
    · simp [s150, Value.ownBlock] at hi
  · refine ⟨fun i hi => ?_, fun i hi => ?_, fun i hi => ?_, ?_, fun i hi => ?_, fun x hx => by simp [s150] at hx⟩
    · rcases hi with rfl | hi
      · exact if_pos rfl
      · simp [s150, Value.ownBlock] at hi
    · rcases hi with e | hi
      · have e : i = sb := e
        show (if i = mb then 1 else if i = sb then 2 else if i = H then 4 else 5) = 2
        rw [e, if_neg (by omega), if_pos rfl]
      · simp [s150, Value.ownBlock] at hi
    · simp [s150, Value.ownBlock] at hi
    · show (if H = mb then 1 else if H = sb then 2 else if H = H then 4 else 5) = 4
      rw [if_neg (by omega), if_neg (by omega), if_pos rfl]
    · have h5 := (hit.lt i hi).1
      show (if i = mb then 1 else if i = sb then 2 else if i = H then 4 else 5) = 5
      rw [if_neg (by omega), if_neg (by omega), if_neg (by omega)]
  · rcases hi with (e | h) | (e | h) | e | h | ⟨x, hx, _⟩
    · have e : i = mb := e
      omega
    · simp [s150, Value.ownBlock] at h
    · have e : i = sb := e
      omega
    · simp [s150, Value.ownBlock] at h
    · have e : i = H := e
      omega
    · simp [s150, Value.ownBlock] at h
    · simp [s150] at hx
theorem newE15 {R : HotS} (fine : hotE R = 0) (seed : Int) : newE (sh15 R seed) = 0 := by
  obtain ⟨_, ⟨h1, h2⟩, _⟩ := hot_parts fine
  have hs : shapeB (sh15 R seed) = true := by
    unfold shapeB inB sh15
    simp only [Bool.and_eq_true, decide_eq_true_eq]
    omega
  have hm : (sh15 R seed).W % (sh15 R seed).B = 0 := by show (R.secs * 1000000) % 10 = 0; omega
  unfold newE
  rw [if_pos hs, if_pos hm]
set_option maxHeartbeats 12800000 in
set_option maxRecDepth 100000 in
theorem r15new_any {w : World} (R : HotS) (ok : HotOk w R) (keys seed : Int) (s0 : 0 ≤ seed) (s1 : seed ≤ 18446744073709551615) :
    Calls Tryz.prog 6 #[.agg #[.string R.res, .int .i64 R.idx, .int .i64 R.cnt, .int .i64 R.secs, .slice R.ia R.il R.ic], .int .i64 keys, .int .u64 seed] w (New15Post w R keys seed) := by
  obtain ⟨N, hN⟩ : ∃ N, w.heap.size = N := ⟨_, rfl⟩
  have HN := Lib.hid hN
  have hB : Below w.heap.size w (w.alloc (.cells #[.string R.res, .int .i64 R.idx, .int .i64 R.cnt, .int .i64 R.secs, .slice R.ia R.il R.ic] 24)) := (Below.refl _ _).alloc (Nat.le_refl _) _
  have hbox := (get_allocW w (.cells #[.string R.res, .int .i64 R.idx, .int .i64 R.cnt, .int .i64 R.secs, .slice R.ia R.il R.ic] 24) w.heap.size).trans (if_pos rfl)
  have HR7 := Lib.hid (r7hot_any R (ok.below (Nat.le_refl _) hB))
  have HB := Lib.hid hB
  have HOK := Lib.hid ok
  have HBX := Lib.hid hbox
  clear ok hB hbox
  by_cases hE : hotE R = 0
  · have HE := Lib.hid hE
    rw [hE] at HR7
    by_cases hk : 1 ≤ keys ∧ keys ≤ 4096
    · have HKS := Lib.hid hk
      have HNE := Lib.hid (show newHE R keys = 0 by unfold newHE; rw [if_neg (by rw [hE]; simp), if_pos hk])
      have HRN := Lib.hid (fun wx => rnew_any wx keys hk)
      have HS6 := Lib.hid (fun wx => (r6new_any (sh15 R seed) wx))
      obtain ⟨_, ⟨q1, q2⟩, _⟩ := hot_parts hE
      have HSD := Lib.hid (And.intro s0 s1)
      clear hE hk s0 s1
      go_enter Tryz.func6, Tryz.ntmps6
      obtain ⟨w1, hw1⟩ : ∃ w1, w.alloc (.cells #[.string R.res, .int .i64 R.idx, .int .i64 R.cnt, .int .i64 R.secs, .slice R.ia R.il R.ic] 24) = w1 := ⟨_, rfl⟩
      have d0 : w1.cell? ⟨N, 0, none⟩ = some (.string R.res) := by rw [← hw1, ← hN]; simp only [World.cell?, HBX.out]; rfl
      have d1 : w1.cell? ⟨N, 1, none⟩ = some (.int .i64 R.idx) := by rw [← hw1, ← hN]; simp only [World.cell?, HBX.out]; rfl
      have d2 : w1.cell? ⟨N, 2, none⟩ = some (.int .i64 R.cnt) := by rw [← hw1, ← hN]; simp only [World.cell?, HBX.out]; rfl
      have d3 : w1.cell? ⟨N, 3, none⟩ = some (.int .i64 R.secs) := by rw [← hw1, ← hN]; simp only [World.cell?, HBX.out]; rfl
      have d4 : w1.cell? ⟨N, 4, none⟩ = some (.slice R.ia R.il R.ic) := by rw [← hw1, ← hN]; simp only [World.cell?, HBX.out]; rfl
      have HNL := Lib.hid (show N < w1.heap.size by rw [← hw1, ← hN]; exact (Array.getElem?_eq_some_iff.1 HBX.out).1)
      go_wp2_with (fail)
      rw [hw1] at HR7 HB
      unfold HotS.v at HR7
      clear hw1 hN
      refine HR7.out.mono ?_
      rintro e w2 ⟨rfl, hb2⟩
      have HB2 := Lib.hid hb2
      have HD2 := Lib.hid (And.intro ((hb2.cell (p := ⟨N, 0, none⟩) HNL.out).trans d0) (And.intro ((hb2.cell (p := ⟨N, 1, none⟩) HNL.out).trans d1) (And.intro ((hb2.cell (p := ⟨N, 2, none⟩) HNL.out).trans d2) (And.intro ((hb2.cell (p := ⟨N, 3, none⟩) HNL.out).trans d3) ((hb2.cell (p := ⟨N, 4, none⟩) HNL.out).trans d4)))))
      clear hb2 HR7 d0 d1 d2 d3 d4
      go_wp2_with (fail)
      refine (HRN.out _).mono ?_
      rintro e w3 ⟨rfl, hm3, hb3, hz3⟩
      obtain ⟨mb, hmb⟩ : ∃ mb, w2.heap.size = mb := ⟨_, rfl⟩
      have HMB := Lib.hid hmb
      rw [hmb] at hm3 ⊢
      have HM3 := Lib.hid hm3
      have HB3 := Lib.hid hb3
      have HZ3 := Lib.hid hz3
      have hn2 : N < w2.heap.size := by have := HB2.out.size; have := HNL.out; omega
      have HN2 := Lib.hid hn2
      obtain ⟨e0, e1, e2, e3, e4⟩ := HD2.out
      have d0 := (hb3.cell (p := ⟨N, 0, none⟩) hn2).trans e0
      have d1 := (hb3.cell (p := ⟨N, 1, none⟩) hn2).trans e1
      have d2 := (hb3.cell (p := ⟨N, 2, none⟩) hn2).trans e2
      have d3 := (hb3.cell (p := ⟨N, 3, none⟩) hn2).trans e3
      have d4 := (hb3.cell (p := ⟨N, 4, none⟩) hn2).trans e4
      have HD3 := Lib.hid (And.intro d0 (And.intro d1 (And.intro d2 (And.intro d3 d4))))
      clear hm3 hb3 hz3 hmb hn2 e0 e1 e2 e3 e4 d0 d1 d2 d4 HRN
      have HS6w := Lib.hid ((HS6.out w3))
      unfold sh15 at HS6w
      dsimp only at HS6w
      go_wp2_with (fail)
      refine HS6w.out.mono ?_
      intro e w4 h4
      obtain ⟨he4, hw4⟩ := h4.2 (newE15 HE.out seed)
      subst he4
      have hr6 := r6_made w3 (sh15 R seed)
      unfold sh15 at hr6
      rw [← hw4] at hr6
      obtain ⟨sb, hsb⟩ : ∃ sb, w3.heap.size = sb := ⟨_, rfl⟩
      have HSB := Lib.hid hsb
      rw [hsb] at hr6 ⊢
      have HR6 := Lib.hid hr6
      have HB4 := Lib.hid (show Below w3.heap.size w3 w4 by rw [hw4]; exact (Below.refl _ _).alloc (Nat.le_refl _) _)
      have hn3 : N < w3.heap.size := by have := HB3.out.size; have := HN2.out; omega
      obtain ⟨e0, e1, e2, e3, e4⟩ := HD3.out
      have d0 := (HB4.out.cell (p := ⟨N, 0, none⟩) hn3).trans e0
      have d1 := (HB4.out.cell (p := ⟨N, 1, none⟩) hn3).trans e1
      have d2 := (HB4.out.cell (p := ⟨N, 2, none⟩) hn3).trans e2
      have d3 := (HB4.out.cell (p := ⟨N, 3, none⟩) hn3).trans e3
      have d4 := (HB4.out.cell (p := ⟨N, 4, none⟩) hn3).trans e4
      have HN4 := Lib.hid (show N < w4.heap.size by have := HB4.out.size; omega)
      have HD4 := Lib.hid d4
      clear h4 hw4 hr6 hsb hn3 e0 e1 e2 e3 e4 HS6 HS6w
      go_wp2_with (fail)
      clear d0 d1 d2 d3 d4
      have hb9 : Below w4.heap.size w4 (w4.alloc (.cells #[.string R.res, .int .i64 R.idx, .int .i64 R.cnt, .int .i64 R.secs, .slice none 0 0, .pointer (some ⟨mb, 0, none⟩), .slice none 0 0, .pointer (some ⟨sb, 0, none⟩), .int .i64 0] 76)) := (Below.refl _ _).alloc (Nat.le_refl _) _
      have H9 := Lib.hid ((get_allocW w4 (.cells #[.string R.res, .int .i64 R.idx, .int .i64 R.cnt, .int .i64 R.secs, .slice none 0 0, .pointer (some ⟨mb, 0, none⟩), .slice none 0 0, .pointer (some ⟨sb, 0, none⟩), .int .i64 0] 76) w4.heap.size).trans (if_pos rfl))
      have HB9 := Lib.hid hb9
      clear hb9
      obtain ⟨w9, hw9⟩ : ∃ w9, w4.alloc (.cells #[.string R.res, .int .i64 R.idx, .int .i64 R.cnt, .int .i64 R.secs, .slice none 0 0, .pointer (some ⟨mb, 0, none⟩), .slice none 0 0, .pointer (some ⟨sb, 0, none⟩), .int .i64 0] 76) = w9 := ⟨_, rfl⟩
      rw [hw9] at H9 HB9 ⊢
      clear hw9
      obtain ⟨H, hH⟩ : ∃ H, w4.heap.size = H := ⟨_, rfl⟩
      have HH := Lib.hid hH
      rw [hH] at H9 ⊢
      clear hH
      have h4 : w9.drew.cell? ⟨H, 4, none⟩ = some (.slice none 0 0) := by show w9.cell? _ = _; simp only [World.cell?, H9.out]; rfl
      have HS9 := Lib.hid (show w9.drew.cell? ⟨N, 4, none⟩ = some (.slice R.ia R.il R.ic) from (HB9.out.cell (p := ⟨N, 4, none⟩) HN4.out).trans HD4.out)
      have HNH := Lib.hid (show N ≠ H by have := HN4.out; have := HH.out; omega)
      have hdr : Below w9.heap.size w9 w9.drew := (Below.refl _ _).drew
      have HBB := Lib.hid (show Below w.heap.size w w9 from (((HB.out.trans (HB2.out.mono HB.out.size)).trans (HB3.out.mono (by have := HB.out.size; have := HB2.out.size; omega))).trans (HB4.out.mono (by have := HB.out.size; have := HB2.out.size; have := HB3.out.size; omega))).trans (HB9.out.mono (by have := HB.out.size; have := HB2.out.size; have := HB3.out.size; have := HB4.out.size; omega)))
      obtain ⟨a10, cap10, w10, hr10, ho10, hb10⟩ := run_copyI (HOK.out.below (Nat.le_refl _) (HBB.out.trans (hdr.mono HBB.out.size))) 22
      have HAP := Lib.hid hr10
      have HB10 := Lib.hid (show Below w9.heap.size w9 w10 from hdr.trans (hb10.mono hdr.size))
      have HO10 := Lib.hid (show w10.ownsRow w9.heap.size 52 2 (.slice a10 R.il cap10) R.items.length (flatI R.items) from ho10)
      have HHL := Lib.hid (show H < w9.heap.size from (Array.getElem?_eq_some_iff.1 H9.out).1)
      have HSN := Lib.hid ((HB10.out.cell (p := ⟨N, 4, none⟩) (by have h1 := HHL.out; have h2 := HN4.out; have h3 := HH.out; show N < _; omega)).trans HS9.out)
      have n10 := (HB10.out.block H HHL.out).trans H9.out
      have c10 : w10.cell? ⟨H, 4, none⟩ = some (.slice none 0 0) := by simp only [World.cell?, n10]; rfl
      have f10 : w10.frozen? ⟨H, 4, none⟩ = false := frozen_of_row w10 H 4 _ _ n10
      clear hr10 ho10 hb10 hdr n10
      refine wp_region_noPanic ?_
      refine wp_region_held_drew (S := (fun wx => wx.cell? ⟨N, 4, none⟩ = some (.slice R.ia R.il R.ic))) (by kernel_rfl) ?_ (fun hHeld => ?_)
      · exact HS9.out
      refine wpAnyH_take (i := 0) (v := ?_) rfl (by kernel_rfl) (by kernel_rfl) (by kernel_rfl) (fun _ _ _ h => h) (Or.inl ⟨by rfl, ?hy⟩) (by assumption) ?_
      case hy => intro w hSw; (try dsimp only at hSw); go_simp; try with_reducible rfl
      try simp only [Act.put, szA, szB, szC, szD, szE, szF]
      refine wpAnyH_take (i := 1) (v := ?_) rfl (by kernel_rfl) (by kernel_rfl) (by kernel_rfl) (fun _ _ _ h => h) (Or.inl ⟨by rfl, ?hy⟩) (by assumption) ?_
      case hy => intro w hSw; (try dsimp only at hSw); go_simp; try with_reducible rfl
      try simp only [Act.put, szA, szB, szC, szD, szE, szF]
      refine wpAnyH_take (i := 2) (v := ?_) rfl (by kernel_rfl) (by kernel_rfl) (by kernel_rfl) (fun _ _ _ h => h) (Or.inl ⟨by rfl, ?hy⟩) (by assumption) ?_
      case hy => intro w hSw; (try dsimp only at hSw); go_simp; try with_reducible rfl
      try simp only [Act.put, szA, szB, szC, szD, szE, szF]
      refine wpAnyH_take (i := 3) (v := ?_) rfl (by kernel_rfl) (by kernel_rfl) (by kernel_rfl) (fun _ _ _ h => h) (Or.inl ⟨by rfl, ?hy⟩) (by assumption) ?_
      case hy => intro w hSw; (try dsimp only at hSw); go_simp; try with_reducible rfl
      try simp only [Act.put, szA, szB, szC, szD, szE, szF]
      refine wpAnyH_take (i := 4) (v := ?_) rfl (by kernel_rfl) (by kernel_rfl) (by kernel_rfl) (fun _ _ _ h => h) (Or.inl ⟨by rfl, ?hy⟩) (by assumption) ?_
      case hy => intro w hSw; (try dsimp only at hSw); go_simp; try with_reducible rfl
      try simp only [Act.put, szA, szB, szC, szD, szE, szF]
      refine wpAnyH_take (i := 6) (v := ?_) rfl (by kernel_rfl) (by kernel_rfl) (by kernel_rfl) (fun _ _ _ h => h) (Or.inl ⟨by rfl, ?hy⟩) (by assumption) ?_
      case hy => intro w hSw; (try dsimp only at hSw); go_simp; try with_reducible rfl
      try simp only [Act.put, szA, szB, szC, szD, szE, szF]
      refine wpAnyH_take (i := 7) (v := ?_) rfl (by kernel_rfl) (by kernel_rfl) (by kernel_rfl) (fun _ _ _ h => h) (Or.inl ⟨by rfl, ?hy⟩) (by assumption) ?_
      case hy => intro w hSw; (try dsimp only at hSw); go_simp; try with_reducible rfl
      try simp only [Act.put, szA, szB, szC, szD, szE, szF]
      refine wpAnyH_ready (rs := [5]) (by kernel_rfl) (by simp) (AllReadyH.cons rfl (fun K hK => ?_) AllReadyH.nil)
      go_simp
      skip
      try (go_wp2_with fail)
      refine hK.out _ _ ?_ (fun hHeld => ?_)
      · exact hHeld
      clear hK K
      try simp only [Act.put, szA, szB, szC, szD, szE, szF]
      refine wpAnyH_ready (rs := [8]) (by kernel_rfl) (by simp) (AllReadyH.cons rfl (fun K hK => ?_) AllReadyH.nil)
      rw [if_pos (by rfl)]
      refine wp_append_runR _ (.tmp 49) (.tmp 51) 22 22 (by rfl) (by rfl) (by rfl) (by rfl) HAP.out ?_
      refine hK.out _ _ (HSN.out) (fun hHeld => ?_)
      clear hK K
      try simp only [Act.put, szA, szB, szC, szD, szE, szF]
      refine wpAnyH_take (i := 9) (v := ?_) rfl (by kernel_rfl) (by kernel_rfl) (by kernel_rfl) (fun _ _ _ h => h) (Or.inl ⟨by rfl, ?hy⟩) (by assumption) ?_
      case hy => intro w hSw; (try dsimp only at hSw); go_simp; try with_reducible rfl
      try simp only [Act.put, szA, szB, szC, szD, szE, szF]
      refine wpAnyH_take (i := 10) (v := ?_) rfl (by kernel_rfl) (by kernel_rfl) (by kernel_rfl) (fun _ _ _ h => h) (Or.inl ⟨by rfl, ?hy⟩) (by assumption) ?_
      case hy => intro w hSw; (try dsimp only at hSw); go_simp; try with_reducible rfl
      try simp only [Act.put, szA, szB, szC, szD, szE, szF]
      refine wpAnyH_take (i := 11) (v := ?_) rfl (by kernel_rfl) (by kernel_rfl) (by kernel_rfl) (fun _ _ _ h => h) (Or.inl ⟨by rfl, ?hy⟩) (by assumption) ?_
      case hy => intro w hSw; (try dsimp only at hSw); go_simp; try with_reducible rfl
      try simp only [Act.put, szA, szB, szC, szD, szE, szF]
      refine wpAnyH_ready (rs := [12]) (by kernel_rfl) (by simp) (AllReadyH.cons rfl (fun K hK => ?_) AllReadyH.nil)
      go_simp
      skip
      try (go_wp2_with fail)
      refine hK.out _ _ ?_ (fun hHeld => ?_)
      · exact (World.cell?_of_block (a := ⟨N, 4, none⟩) (heap_setCell_other _ ⟨H, 4, none⟩ N _ HNH.out)).trans hHeld
      clear hK K
      try simp only [Act.put, szA, szB, szC, szD, szE, szF]
      refine wpAnyH_done (by kernel_rfl) ?_ _
      refine NoPanic.normal ?_
      go_wp2_with (fail)
      go_ret2
      have hmade := new15_made (w := w) (keys := keys) (v' := .slice a10 R.il cap10) HE.out HSD.out.1 HSD.out.2 HKS.out.1 (show w9.heap[H]? = some (.cells (r15Cells ⟨R, seed, H, mb, keys.toNat, sb, .slice none 0 0⟩ s150) 76) from H9.out) ((HM3.out.below (by exact HB4.out)).below HB9.out) (r6_kept HR6.out (fun i hi => HB9.out.block i (by
        rcases hi with e | hi
        · have h1 := (Array.getElem?_eq_some_iff.1 HR6.out.head).1
          omega
        · simp [Value.ownBlock] at hi))) (by have h1 := HB.out.size; have h2 := HB2.out.size; have h3 := HMB.out; omega) (by have h1 := HMB.out; have h2 := HSB.out; have h3 := HZ3.out; omega) (by have h1 := HH.out; have h2 := (Array.getElem?_eq_some_iff.1 HR6.out.head).1; omega) HO10.out HB10.out
      refine ⟨?_, fun h => absurd HNE.out h, fun _ => ⟨_, _, rfl, hmade⟩⟩
      exact (HBB.out.trans (HB10.out.mono HBB.out.size)).setCell (by have h1 := HB.out.size; have h2 := HB2.out.size; have h3 := HB3.out.size; have h4 := HB4.out.size; have h5 := HH.out; show w.heap.size ≤ H; omega) _
    · have HKS := Lib.hid hk
      have HNE := Lib.hid (show newHE R keys = 2 by unfold newHE; rw [if_neg (by rw [hE]; simp), if_neg hk])
      have HRN := Lib.hid (fun wx => rnew_no wx keys hk)
      clear hE hk s0 s1
      go_enter Tryz.func6, Tryz.ntmps6
      obtain ⟨w1, hw1⟩ : ∃ w1, w.alloc (.cells #[.string R.res, .int .i64 R.idx, .int .i64 R.cnt, .int .i64 R.secs, .slice R.ia R.il R.ic] 24) = w1 := ⟨_, rfl⟩
      have d0 : w1.cell? ⟨N, 0, none⟩ = some (.string R.res) := by rw [← hw1, ← hN]; simp only [World.cell?, HBX.out]; rfl
      have d1 : w1.cell? ⟨N, 1, none⟩ = some (.int .i64 R.idx) := by rw [← hw1, ← hN]; simp only [World.cell?, HBX.out]; rfl
      have d2 : w1.cell? ⟨N, 2, none⟩ = some (.int .i64 R.cnt) := by rw [← hw1, ← hN]; simp only [World.cell?, HBX.out]; rfl
      have d3 : w1.cell? ⟨N, 3, none⟩ = some (.int .i64 R.secs) := by rw [← hw1, ← hN]; simp only [World.cell?, HBX.out]; rfl
      have d4 : w1.cell? ⟨N, 4, none⟩ = some (.slice R.ia R.il R.ic) := by rw [← hw1, ← hN]; simp only [World.cell?, HBX.out]; rfl
      go_wp2_with (fail)
      rw [hw1] at HR7 HB
      unfold HotS.v at HR7
      clear hw1 hN d0 d1 d2 d3 d4
      refine HR7.out.mono ?_
      rintro e w2 ⟨rfl, hb2⟩
      have HB2 := Lib.hid hb2
      clear hb2 HR7
      go_wp2_with (fail)
      refine (HRN.out _).mono ?_
      rintro e wq ⟨rfl, hq⟩
      rw [hq]
      clear hq
      go_wp2_with (fail)
      go_ret2
      exact ⟨HB.out.trans (HB2.out.mono HB.out.size), fun _ => by rw [HNE.out]; rfl, fun h => by rw [HNE.out] at h; cases h⟩
  · have HNE := Lib.hid (show newHE R keys = hotE R by unfold newHE; rw [if_pos hE])
    have HEN := Lib.hid hE
    obtain ⟨E, hEE⟩ : ∃ E, hotE R = E := ⟨_, rfl⟩
    rw [hEE] at HR7 hE
    have HEE := Lib.hid hEE
    have hne : (E != 0) = true := by simpa using hE
    clear hE s0 s1 hEE
    go_enter Tryz.func6, Tryz.ntmps6
    obtain ⟨w1, hw1⟩ : ∃ w1, w.alloc (.cells #[.string R.res, .int .i64 R.idx, .int .i64 R.cnt, .int .i64 R.secs, .slice R.ia R.il R.ic] 24) = w1 := ⟨_, rfl⟩
    have d0 : w1.cell? ⟨N, 0, none⟩ = some (.string R.res) := by rw [← hw1, ← hN]; simp only [World.cell?, HBX.out]; rfl
    have d1 : w1.cell? ⟨N, 1, none⟩ = some (.int .i64 R.idx) := by rw [← hw1, ← hN]; simp only [World.cell?, HBX.out]; rfl
    have d2 : w1.cell? ⟨N, 2, none⟩ = some (.int .i64 R.cnt) := by rw [← hw1, ← hN]; simp only [World.cell?, HBX.out]; rfl
    have d3 : w1.cell? ⟨N, 3, none⟩ = some (.int .i64 R.secs) := by rw [← hw1, ← hN]; simp only [World.cell?, HBX.out]; rfl
    have d4 : w1.cell? ⟨N, 4, none⟩ = some (.slice R.ia R.il R.ic) := by rw [← hw1, ← hN]; simp only [World.cell?, HBX.out]; rfl
    go_wp2_with (fail)
    rw [hw1] at HR7 HB
    unfold HotS.v at HR7
    clear hw1 hN d0 d1 d2 d3 d4
    refine HR7.out.mono ?_
    rintro e w2 ⟨rfl, hb2⟩
    have HB2 := Lib.hid hb2
    clear hb2 HR7
    go_wp2_with (fail)
    go_ret2
    exact ⟨HB.out.trans (HB2.out.mono HB.out.size), fun _ => by rw [HNE.out, HEE.out]; rfl, fun h => absurd (HNE.out.symm.trans h) HEN.out⟩
end Go.Proofs.YtemlafbkkaloiaaGreat
namespace Go.Proofs.YtemlafbkkaloiaaGreat
open Go.RowKit
set_option maxHeartbeats 6400000 in
set_option maxRecDepth 100000 in
theorem w3fork_any {w : World} {p : Nat} {b last : Int} {v : Value} {notes : List NoteW} {L : List Bk3} (h : W3At w p b last v notes L) (hfw : L.length ≤ 1152921504607) :
    Calls Tryz.prog 33 #[.pointer (some ⟨p, 0, none⟩)] w fun e w' => ∃ v', e = .returned (.pointer (some ⟨w.heap.size, 0, none⟩)) ∧ W3At w' w.heap.size b last v' notes L ∧ Below w.heap.size w w' ∧ ∀ i, R3Own w.heap.size v' i → w.heap.size ≤ i := by
  obtain ⟨c0, c1, c2, c3⟩ := h.cells
  have HH := Lib.hid h
  have hb1 : Below w.heap.size w (w.alloc (.cells #[.int .i64 (b * 10), .int .i64 10, .int .i64 last, .slice none 0 0] 148)).drew := ((Below.refl _ _).alloc (Nat.le_refl _) _).drew
  obtain ⟨H, hH⟩ : ∃ H, w.heap.size = H := ⟨_, rfl⟩
  have H9 := Lib.hid (show (w.alloc (.cells #[.int .i64 (b * 10), .int .i64 10, .int .i64 last, .slice none 0 0] 148)).drew.heap[H]? = some (.cells #[.int .i64 (b * 10), .int .i64 10, .int .i64 last, .slice none 0 0] 148) from (get_allocW _ _ _).trans (if_pos hH.symm))
  have HB9 := Lib.hid hb1
  have HHZ := Lib.hid hH
  have hpl := h.lt (Or.inl rfl)
  have HPL := Lib.hid hpl
  have HC3 := Lib.hid c3
  clear h hb1 hpl
  obtain ⟨WW, hWW⟩ : ∃ WW, b * 10 = WW := ⟨_, rfl⟩
  have HWW := Lib.hid hWW
  rw [hWW] at c0 H9 HB9
  clear hWW
  go_enter Tryz.func33, Tryz.ntmps33
  go_wp2_with (fail)
  refine wp_region_noPanic ?_
  refine wp_region_held_drew (S := (fun wx => wx.cell? ⟨p, 0, none⟩ = some (.int .i64 WW) ∧ wx.cell? ⟨p, 1, none⟩ = some (.int .i64 10) ∧ wx.cell? ⟨p, 2, none⟩ = some (.int .i64 last))) (by kernel_rfl) ?_ (fun hHeld => ?_)
  · exact ⟨c0, c1, c2⟩
  refine wpAnyH_take (i := 0) (v := ?_) rfl (by kernel_rfl) (by kernel_rfl) (by kernel_rfl) (fun _ _ _ h => h) (Or.inl ⟨by rfl, ?hy⟩) (by assumption) ?_
  case hy => intro w hSw; (try dsimp only at hSw); go_simp; try with_reducible rfl
  try simp only [Act.put, szA, szB, szC, szD, szE, szF]
  refine wpAnyH_take (i := 1) (v := ?_) rfl (by kernel_rfl) (by kernel_rfl) (by kernel_rfl) (fun _ _ _ h => h) (Or.inl ⟨by rfl, ?hy⟩) (by assumption) ?_
  case hy => intro w hSw; (try dsimp only at hSw); go_simp; try with_reducible rfl
  try simp only [Act.put, szA, szB, szC, szD, szE, szF]
  refine wpAnyH_take (i := 2) (v := ?_) rfl (by kernel_rfl) (by kernel_rfl) (by kernel_rfl) (fun _ _ _ h => h) (Or.inl ⟨by rfl, ?hy⟩) (by assumption) ?_
  case hy => intro w hSw; (try dsimp only at hSw); go_simp; try with_reducible rfl
  try simp only [Act.put, szA, szB, szC, szD, szE, szF]
  refine wpAnyH_take (i := 3) (v := ?_) rfl (by kernel_rfl) (by kernel_rfl) (by kernel_rfl) (fun _ _ _ h => h) (Or.inl ⟨by rfl, ?hy⟩) (by assumption) ?_
  case hy => intro w hSw; (try dsimp only at hSw); go_simp; try with_reducible rfl
  try simp only [Act.put, szA, szB, szC, szD, szE, szF]
  refine wpAnyH_take (i := 4) (v := ?_) rfl (by kernel_rfl) (by kernel_rfl) (by kernel_rfl) (fun _ _ _ h => h) (Or.inl ⟨by rfl, ?hy⟩) (by assumption) ?_
  case hy => intro w hSw; (try dsimp only at hSw); go_simp; try with_reducible rfl
  try simp only [Act.put, szA, szB, szC, szD, szE, szF]
  refine wpAnyH_take (i := 5) (v := ?_) rfl (by kernel_rfl) (by kernel_rfl) (by kernel_rfl) (fun _ _ _ h => h) (Or.inl ⟨by rfl, ?hy⟩) (by assumption) ?_
  case hy => intro w hSw; (try dsimp only at hSw); go_simp; try with_reducible rfl
  try simp only [Act.put, szA, szB, szC, szD, szE, szF]
  refine wpAnyH_take (i := 6) (v := ?_) rfl (by kernel_rfl) (by kernel_rfl) (by kernel_rfl) (fun _ _ _ h => h) (Or.inl ⟨by rfl, ?hy⟩) (by assumption) ?_
  case hy => intro w hSw; (try dsimp only at hSw); go_simp; try with_reducible rfl
  try simp only [Act.put, szA, szB, szC, szD, szE, szF]
  refine wpAnyH_take (i := 7) (v := ?_) rfl (by kernel_rfl) (by kernel_rfl) (by kernel_rfl) (fun _ _ _ h => h) (Or.inl ⟨by rfl, ?hy⟩) (by assumption) ?_
  case hy => intro w hSw; (try dsimp only at hSw); go_simp; try with_reducible rfl
  try simp only [Act.put, szA, szB, szC, szD, szE, szF]
  refine wpAnyH_take (i := 8) (v := ?_) rfl (by kernel_rfl) (by kernel_rfl) (by kernel_rfl) (fun _ _ _ h => h) (Or.inl ⟨by rfl, ?hy⟩) (by assumption) ?_
  case hy => intro w hSw; (try dsimp only at hSw); go_simp; try with_reducible rfl
  try simp only [Act.put, szA, szB, szC, szD, szE, szF]
  refine wpAnyH_take (i := 9) (v := ?_) rfl (by kernel_rfl) (by kernel_rfl) (by kernel_rfl) (fun _ _ _ h => h) (Or.inl ⟨by rfl, ?hy⟩) (by assumption) ?_
  case hy => intro w hSw; (try dsimp only at hSw); go_simp; try with_reducible rfl
  try simp only [Act.put, szA, szB, szC, szD, szE, szF]
  refine wpAnyH_take (i := 10) (v := ?_) rfl (by kernel_rfl) (by kernel_rfl) (by kernel_rfl) (fun _ _ _ h => h) (Or.inl ⟨by rfl, ?hy⟩) (by assumption) ?_
  case hy => intro w hSw; (try dsimp only at hSw); go_simp; try with_reducible rfl
  try simp only [Act.put, szA, szB, szC, szD, szE, szF]
  refine wpAnyH_take (i := 11) (v := ?_) rfl (by kernel_rfl) (by kernel_rfl) (by kernel_rfl) (fun _ _ _ h => h) (Or.inl ⟨by rfl, ?hy⟩) (by assumption) ?_
  case hy => intro w hSw; (try dsimp only at hSw); go_simp; try with_reducible rfl
  try simp only [Act.put, szA, szB, szC, szD, szE, szF]
  refine wpAnyH_take (i := 12) (v := ?_) rfl (by kernel_rfl) (by kernel_rfl) (by kernel_rfl) (fun _ _ _ h => h) (Or.inl ⟨by rfl, ?hy⟩) (by assumption) ?_
  case hy => intro w hSw; (try dsimp only at hSw); go_simp; try with_reducible rfl
  try simp only [Act.put, szA, szB, szC, szD, szE, szF]
  refine wpAnyH_ready (rs := [13]) (by kernel_rfl) (by simp) (AllReadyH.cons rfl (fun K hK => ?_) AllReadyH.nil)
  go_simp
  skip
  try (go_wp2_with fail)
  refine hK.out _ _ ?_ (fun hHeld => ?_)
  · exact ⟨(HB9.out.cell (p := ⟨p, 0, none⟩) HPL.out).trans c0, (HB9.out.cell (p := ⟨p, 1, none⟩) HPL.out).trans c1, (HB9.out.cell (p := ⟨p, 2, none⟩) HPL.out).trans c2⟩
  clear hK K
  try simp only [Act.put, szA, szB, szC, szD, szE, szF]
  refine wpAnyH_take (i := 14) (v := ?_) rfl (by kernel_rfl) (by kernel_rfl) (by kernel_rfl) (fun _ _ _ h => h) (Or.inl ⟨by rfl, ?hy⟩) (by assumption) ?_
  case hy => intro w hSw; (try dsimp only at hSw); go_simp; try with_reducible rfl
  try simp only [Act.put, szA, szB, szC, szD, szE, szF]
  refine wpAnyH_done (by kernel_rfl) ?_ _
  refine NoPanic.normal ?_
  obtain ⟨w9, hw9⟩ : ∃ w9, (w.alloc (.cells #[.int .i64 WW, .int .i64 10, .int .i64 last, .slice none 0 0] 148)).drew = w9 := ⟨_, rfl⟩
  rw [hw9] at H9 HB9 ⊢
  clear hw9 hH c0 c1 c2 c3
  go_wp2_with (fail)
  have hdr : Below w9.heap.size w9 w9.drew := (Below.refl _ _).drew
  have h4 : w9.drew.cell? ⟨H, 3, none⟩ = some (.slice none 0 0) := by show w9.cell? _ = _; simp only [World.cell?, H9.out]; rfl
  have HS9 := Lib.hid (show w9.drew.cell? ⟨p, 3, none⟩ = some v from (HB9.out.cell (p := ⟨p, 3, none⟩) HPL.out).trans HC3.out)
  have HNH := Lib.hid (show p ≠ H by have := HPL.out; have := HHZ.out; omega)
  have hrow9 : w9.drew.ownsRow 0 168 7 v L.length (flat3 L) := rowKept3 HH.out.row (fun g e => (HB9.out.trans (hdr.mono HB9.out.size)).block g (HH.out.row.lt g e).2)
  obtain ⟨v', w10, hr10, ho10, hb10⟩ := run_copy3 hrow9 (by omega) 146
  obtain ⟨a10, cap10, hv', _⟩ := row3_form ho10 rfl
  subst hv'
  have HHL := Lib.hid (show H < w9.heap.size from (Array.getElem?_eq_some_iff.1 H9.out).1)
  have HAP := Lib.hid hr10
  have HB10 := Lib.hid (show Below w9.heap.size w9 w10 from hdr.trans (hb10.mono hdr.size))
  have HO10 := Lib.hid (show w10.ownsRow w9.heap.size 168 7 (.slice a10 L.length cap10) L.length (flat3 L) from ho10)
  have HSN := Lib.hid ((HB10.out.cell (p := ⟨p, 3, none⟩) (by have h1 := HHL.out; have h2 := HPL.out; have h3 := HHZ.out; show p < _; omega)).trans HS9.out)
  have n10 := (HB10.out.block H HHL.out).trans H9.out
  have N10 := Lib.hid n10
  have c10 : w10.cell? ⟨H, 3, none⟩ = some (.slice none 0 0) := by simp only [World.cell?, n10]; rfl
  have f10 : w10.frozen? ⟨H, 3, none⟩ = false := frozen_of_row w10 H 3 _ _ n10
  clear hr10 ho10 hb10 hdr n10 hrow9
  refine wp_region_noPanic ?_
  refine wp_region_held_drew (S := (fun wx => wx.cell? ⟨p, 3, none⟩ = some v)) (by kernel_rfl) ?_ (fun hHeld => ?_)
  · exact HS9.out
  refine wpAnyH_take (i := 0) (v := ?_) rfl (by kernel_rfl) (by kernel_rfl) (by kernel_rfl) (fun _ _ _ h => h) (Or.inl ⟨by rfl, ?hy⟩) (by assumption) ?_
  case hy => intro w hSw; (try dsimp only at hSw); go_simp; try with_reducible rfl
  try simp only [Act.put, szA, szB, szC, szD, szE, szF]
  refine wpAnyH_take (i := 1) (v := ?_) rfl (by kernel_rfl) (by kernel_rfl) (by kernel_rfl) (fun _ _ _ h => h) (Or.inl ⟨by rfl, ?hy⟩) (by assumption) ?_
  case hy => intro w hSw; (try dsimp only at hSw); go_simp; try with_reducible rfl
  try simp only [Act.put, szA, szB, szC, szD, szE, szF]
  refine wpAnyH_take (i := 2) (v := ?_) rfl (by kernel_rfl) (by kernel_rfl) (by kernel_rfl) (fun _ _ _ h => h) (Or.inl ⟨by rfl, ?hy⟩) (by assumption) ?_
  case hy => intro w hSw; (try dsimp only at hSw); go_simp; try with_reducible rfl
  try simp only [Act.put, szA, szB, szC, szD, szE, szF]
  refine wpAnyH_take (i := 3) (v := ?_) rfl (by kernel_rfl) (by kernel_rfl) (by kernel_rfl) (fun _ _ _ h => h) (Or.inl ⟨by rfl, ?hy⟩) (by assumption) ?_
  case hy => intro w hSw; (try dsimp only at hSw); go_simp; try with_reducible rfl
  try simp only [Act.put, szA, szB, szC, szD, szE, szF]
  refine wpAnyH_take (i := 5) (v := ?_) rfl (by kernel_rfl) (by kernel_rfl) (by kernel_rfl) (fun _ _ _ h => h) (Or.inl ⟨by rfl, ?hy⟩) (by assumption) ?_
  case hy => intro w hSw; (try dsimp only at hSw); go_simp; try with_reducible rfl
  try simp only [Act.put, szA, szB, szC, szD, szE, szF]
  refine wpAnyH_take (i := 6) (v := ?_) rfl (by kernel_rfl) (by kernel_rfl) (by kernel_rfl) (fun _ _ _ h => h) (Or.inl ⟨by rfl, ?hy⟩) (by assumption) ?_
  case hy => intro w hSw; (try dsimp only at hSw); go_simp; try with_reducible rfl
  try simp only [Act.put, szA, szB, szC, szD, szE, szF]
  refine wpAnyH_take (i := 7) (v := ?_) rfl (by kernel_rfl) (by kernel_rfl) (by kernel_rfl) (fun _ _ _ h => h) (Or.inl ⟨by rfl, ?hy⟩) (by assumption) ?_
  case hy => intro w hSw; (try dsimp only at hSw); go_simp; try with_reducible rfl
  try simp only [Act.put, szA, szB, szC, szD, szE, szF]
  refine wpAnyH_take (i := 8) (v := ?_) rfl (by kernel_rfl) (by kernel_rfl) (by kernel_rfl) (fun _ _ _ h => h) (Or.inl ⟨by rfl, ?hy⟩) (by assumption) ?_
  case hy => intro w hSw; (try dsimp only at hSw); go_simp; try with_reducible rfl
  try simp only [Act.put, szA, szB, szC, szD, szE, szF]
  refine wpAnyH_ready (rs := [4]) (by kernel_rfl) (by simp) (AllReadyH.cons rfl (fun K hK => ?_) AllReadyH.nil)
  go_simp
  skip
  try (go_wp2_with fail)
  refine hK.out _ _ ?_ (fun hHeld => ?_)
  · exact hHeld
  clear hK K
  try simp only [Act.put, szA, szB, szC, szD, szE, szF]
  refine wpAnyH_ready (rs := [9]) (by kernel_rfl) (by simp) (AllReadyH.cons rfl (fun K hK => ?_) AllReadyH.nil)
  rw [if_pos (by rfl)]
  refine wp_append_runR _ (.tmp 24) (.tmp 28) 146 146 (by rfl) (by rfl) (by rfl) (by rfl) HAP.out ?_
  refine hK.out _ _ (HSN.out) (fun hHeld => ?_)
  clear hK K
  try simp only [Act.put, szA, szB, szC, szD, szE, szF]
  refine wpAnyH_take (i := 10) (v := ?_) rfl (by kernel_rfl) (by kernel_rfl) (by kernel_rfl) (fun _ _ _ h => h) (Or.inl ⟨by rfl, ?hy⟩) (by assumption) ?_
  case hy => intro w hSw; (try dsimp only at hSw); go_simp; try with_reducible rfl
  try simp only [Act.put, szA, szB, szC, szD, szE, szF]
  refine wpAnyH_take (i := 11) (v := ?_) rfl (by kernel_rfl) (by kernel_rfl) (by kernel_rfl) (fun _ _ _ h => h) (Or.inl ⟨by rfl, ?hy⟩) (by assumption) ?_
  case hy => intro w hSw; (try dsimp only at hSw); go_simp; try with_reducible rfl
  try simp only [Act.put, szA, szB, szC, szD, szE, szF]
  refine wpAnyH_ready (rs := [12]) (by kernel_rfl) (by simp) (AllReadyH.cons rfl (fun K hK => ?_) AllReadyH.nil)
  go_simp
  skip
  try (go_wp2_with fail)
  refine hK.out _ _ ?_ (fun hHeld => ?_)
  · exact (World.cell?_of_block (a := ⟨p, 3, none⟩) (heap_setCell_other _ ⟨H, 3, none⟩ p _ HNH.out)).trans hHeld
  clear hK K
  try simp only [Act.put, szA, szB, szC, szD, szE, szF]
  refine wpAnyH_done (by kernel_rfl) ?_ _
  refine NoPanic.normal ?_
  go_wp2_with (fail)
  go_ret
  have hne : ∀ i, (Value.slice a10 L.length cap10).ownBlock = some i → H < i := fun i e => by have h1 := (HO10.out.lt i e).1; have h2 := HHL.out; omega
  refine ⟨.slice a10 L.length cap10, by rw [HHZ.out]; rfl, ?_, ?_, fun i hi => ?_⟩
  · rw [HHZ.out]
    refine ⟨?_, ?_, HH.out.inv, HH.out.b0, HH.out.b1, HH.out.l0, HH.out.l1, (fun e => by have := hne H e; omega), HH.out.pos, HH.out.rgt⟩
    · rw [heap_setCell_same w10 H 3 _ _ _ N10.out, HWW.out]; rfl
    · have hr := rowKept3 (w' := w10.setCell ⟨H, 3, none⟩ (.slice a10 L.length cap10)) HO10.out (fun g e => heap_setCell_other w10 ⟨H, 3, none⟩ g _ (fun e2 => by
        have e2 : g = H := e2
        have := hne g e
        omega))
      exact ⟨hr.1, by
        rcases hr.2 with h | ⟨g, cap, cur, e, hb, r⟩
        · exact Or.inl h
        · exact Or.inr ⟨g, cap, cur, e, Nat.zero_le _, r⟩⟩
  · exact (HB9.out.trans (HB10.out.mono HB9.out.size)).setCell (by rw [HHZ.out]; exact Nat.le_refl _) _
  · rcases hi with rfl | e
    · exact Nat.le_refl _
    · have := hne i e
      have := HHZ.out
      omega
end Go.Proofs.YtemlafbkkaloiaaGreat
namespace Go.Proofs.YtemlafbkkaloiaaGreat
open Go.RowKit
theorem row_type {w : World} {base size n : Nat} {e : TypeId} {v : Value} {xs : List Value} (h : w.ownsRow base e size v n xs) {g : Nat} (hv : v.ownBlock = some g) : ∃ cur, w.heap[g]? = some (.cells cur e) := by
  rcases h.2 with ⟨rfl, _⟩ | ⟨g', cap, cur, rfl, hb, hg, hr⟩
  · cases hv
  · have : g' = g := by simpa [Value.ownBlock] using hv
    subst this
    rcases hr with ⟨_, hr⟩ | hr
    all_goals exact ⟨_, by first | exact hr.1 | exact hr.2.1 | exact hr | exact hg⟩
theorem row_win {w : World} {base n : Nat} {rv : Value} {xs : List Value} (hr : w.ownsRow base 85 2 rv n xs) {p : Nat} {b last : Int} {v : Value} {notes : List NoteW} {L : List Bk3} (h : W3At w p b last v notes L) {i : Nat} (hi : R3Own p v i) : rv.ownBlock ≠ some i := by
  intro e
  obtain ⟨cur, h1⟩ := row_type hr e
  rcases hi with rfl | hi
  · rw [h.head] at h1
    injection h1 with h1
    injection h1 with _ h1
    exact absurd h1 (by decide)
  · obtain ⟨cur2, h2⟩ := row_type h.row hi
    rw [h2] at h1
    injection h1 with h1
    injection h1 with _ h1
    exact absurd h1 (by decide)
theorem run_appendW2 {base : Nat} {wr : World} {v : Value} {j : Nat} {L : List RW} (hown : wr.ownsRow base 85 2 v j (flatW L)) (hB : base ≤ wr.heap.size) (hj : j ≤ 1048576) (hL : L.length = j) (k : RW) (ty : TypeId) :
    ∃ g cap w', (Builtin.append_ #[74, 74] ty #[v, .slice (some ⟨wr.heap.size, 0, none⟩) 1 1]).run Tryz.prog (wr.alloc (.cells k.cs.toArray 85)) = .ok (.slice (some ⟨g, 0, none⟩) (j + 1) cap) w' ∧ w'.ownsRow base 85 2 (.slice (some ⟨g, 0, none⟩) (j + 1) cap) (j + 1) (flatW (L ++ [k])) ∧ (wr.alloc (.cells k.cs.toArray 85)).grownBy w' v.ownBlock := by
  obtain ⟨i0, hi, hz0, hz1, hz2⟩ := info_parts3 info_rowR
  obtain ⟨v', w', hr, h2, h3, h4⟩ := run_append_own (P := Tryz.prog) (wr.alloc (.cells k.cs.toArray 85)) base 74 ty 85 i0 _ 2 24 Tryz.underlying74 hi hz0 hz1 hz2 rfl (by decide) v j (flatW L) (hown.alloc _) ⟨wr.heap.size, 0, none⟩ 1 1 k.cs rfl (by
    intro j u hu
    have hn := new_blockS wr (.cells k.cs.toArray 85)
    rw [WideShapes.add_plain, Nat.zero_add]
    simp only [World.cell?, hn]
    simpa using hu) (cs_oneW k) (by unfold maxLen; omega) (by omega) (by simp; omega)
  rw [← flatW_snoc] at h2
  rcases h2.2 with ⟨_, hz⟩ | ⟨g, cap, cur, rfl, _⟩
  · omega
  · exact ⟨g, cap, w', hr, h2, h3⟩
def RW.abs (x : RW) : ByteArray × Int × List NoteW × List Bk3 := (x.key, x.last, x.notes, x.Lb)
structure Fk15 (w4 wr : World) (b : Int) (RS : List RW) (F : Nat) (rv : Value) (RS2 : List RW) (j : Nat) : Prop where
  off : Off (fun i => i = F) w4 wr
  row : wr.ownsRow w4.heap.size 85 2 rv j (flatW RS2)
  len : RS2.length = j
  src : RS2.map RW.abs = (RS.take j).map RW.abs
  wins : ∀ y, y ∈ RS2 → W3At wr y.p b y.last y.v y.notes y.Lb
  at_ : ∀ y, y ∈ RS2 → ∀ i, R3Own y.p y.v i → w4.heap.size ≤ i
  ps : (RS2.map (·.p)).Nodup
  col : ∃ f : Nat → Nat, ∀ y, y ∈ RS2 → ∀ i, R3Own y.p y.v i → f i = 6 + y.p
theorem Fk15.start {w4 : World} {b : Int} {RS : List RW} {F : Nat} : Fk15 w4 w4 b RS F (.slice none 0 0) [] 0 :=
  ⟨Off.refl _ _, World.ownsRow_nil _ _ _ _, rfl, rfl, fun y h => by simp at h, fun y h => by simp at h, by simp, fun _ => 0, fun y h => by simp at h⟩
theorem Fk15.step {w4 wr wf w6 : World} {b : Int} {RS : List RW} {F : Nat} {rv rv' : Value} {RS2 : List RW} {j : Nat} (K : Fk15 w4 wr b RS F rv RS2 j) (hF : F < w4.heap.size) {x : RW} (hx : RS[j]? = some x) {v : Value}
    (hbf : Below wr.heap.size wr wf) (hw : W3At wf wr.heap.size b x.last v x.notes x.Lb) (hown : ∀ i, R3Own wr.heap.size v i → wr.heap.size ≤ i) {o : Obj}
    (hr : w6.ownsRow w4.heap.size 85 2 rv' (j + 1) (flatW (RS2 ++ [⟨x.key, wr.heap.size, v, x.last, x.notes, x.Lb⟩]))) (hg : (wf.alloc o).grownBy w6 rv.ownBlock) :
    Fk15 w4 (w6.setCell ⟨F, 6, none⟩ rv') b RS F rv' (RS2 ++ [⟨x.key, wr.heap.size, v, x.last, x.notes, x.Lb⟩]) (j + 1) := by
  have hz1 := K.off.size
  have hz2 := hbf.size
  have hrf : wf.ownsRow w4.heap.size 85 2 rv j (flatW RS2) := rowKept3 K.row (fun g e => hbf.block g (K.row.lt g e).2)
  have hkf : ∀ i, i < wf.heap.size → i ≠ F → rv.ownBlock ≠ some i → (w6.setCell ⟨F, 6, none⟩ rv').heap[i]? = wf.heap[i]? := fun i hi hne ho =>
    (heap_setCell_other w6 ⟨F, 6, none⟩ i _ hne).trans ((hg.block i (by simp; omega) (fun e => ho e.symm)).trans (Below.heap_alloc wf o i hi))
  have hwin : ∀ {p : Nat} {last : Int} {v : Value} {notes : List NoteW} {L : List Bk3}, W3At wf p b last v notes L → (∀ i, R3Own p v i → w4.heap.size ≤ i) → W3At (w6.setCell ⟨F, 6, none⟩ rv') p b last v notes L := fun {p last v notes L} h ha =>
    h.kept (fun i hi => hkf i (h.lt hi) (by have := ha i hi; omega) (row_win hrf h hi))
  have hbz : Below wr.heap.size wr (wf.alloc o) := hbf.alloc hz2 o
  refine ⟨⟨?_, ?_, ?_, ?_, fun i hi hne => ?_⟩, ?_, by rw [List.length_append, K.len]; rfl, ?_, fun y hy => ?_, fun y hy i hi => ?_, ?_, ?_⟩
  · exact hg.os.trans (hbz.os.trans K.off.os)
  · exact hg.tape.trans (hbz.tape.trans K.off.tape)
  · exact hg.output.trans (hbz.output.trans K.off.output)
  · have h1 := hg.size
    have h2 := hbz.size
    have : (w6.setCell ⟨F, 6, none⟩ rv').heap.size = w6.heap.size := by simp [World.setCell]
    omega
  · rw [hkf i (by omega) hne (fun e => by have := (K.row.lt i e).1; omega), hbf.block i (by omega)]
    exact K.off.block i hi hne
  · exact rowKept3 hr (fun g e => heap_setCell_other w6 ⟨F, 6, none⟩ g _ (fun e2 => by
      have h1 := (hr.lt g e).1
      have e2 : g = F := e2
      omega))
  · have hk := (List.getElem?_eq_some_iff.1 hx).1
    rw [List.map_append, List.take_succ_eq_append_getElem hk, List.map_append, K.src, (List.getElem?_eq_some_iff.1 hx).2]
    rfl
  · rcases List.mem_append.1 hy with hy | hy
    · exact hwin ((K.wins y hy).below hbf) (K.at_ y hy)
    · obtain rfl := List.mem_singleton.1 hy
      exact hwin hw (fun i hi => by have := hown i hi; omega)
  · rcases List.mem_append.1 hy with hy | hy
    · exact K.at_ y hy i hi
    · obtain rfl := List.mem_singleton.1 hy
      have := hown i hi
      omega
  · rw [List.map_append, List.nodup_append]
    refine ⟨K.ps, by simp, fun a ha b hb e => ?_⟩
    simp at hb; subst hb; subst e
    obtain ⟨y, hy, e⟩ := List.mem_map.1 ha
    have := (K.wins y hy).lt (Or.inl rfl)
    omega
  · obtain ⟨f, hf⟩ := K.col
    refine ⟨fun i => if i < wr.heap.size then f i else 6 + wr.heap.size, fun y hy i hi => ?_⟩
    rcases List.mem_append.1 hy with hy | hy
    · have := (K.wins y hy).lt hi
      show (if i < wr.heap.size then f i else 6 + wr.heap.size) = _
      rw [if_pos this]
      exact hf y hy i hi
    · obtain rfl := List.mem_singleton.1 hy
      have := hown i hi
      show (if i < wr.heap.size then f i else 6 + wr.heap.size) = _
      rw [if_neg (by omega)]
theorem findR_abs : ∀ {RS RS2 : List RW}, RS2.map RW.abs = RS.map RW.abs → ∀ k : ByteArray, (findR RS2 k).map RW.abs = (findR RS k).map RW.abs
  | [], [], _, _ => rfl
  | [], _ :: _, h, _ => by simp at h
  | _ :: _, [], h, _ => by simp at h
  | x :: RS, y :: RS2, h, k => by
    rw [List.map_cons, List.map_cons] at h
    injection h with h1 h2
    have ih := findR_abs h2 k
    have hk : y.key = x.key := by have := congrArg (·.1) h1; exact this
    unfold findR at ih ⊢
    rw [List.find?_cons, List.find?_cons, hk]
    cases decide (x.key = k)
    · exact ih
    · show some y.abs = some x.abs
      rw [h1]
structure Fork15 (w : World) (c : R15C) (s : R15V) (m : Nat) (w' : World) (c2 : R15C) (s2 : R15V) : Prop where
  hot : R15At w' c2 s2 m
  own : ∀ i, R15Own c2 s2 i → w.heap.size ≤ i
  bel : Below w.heap.size w w'
  R : c2.R = c.R
  N : c2.N = c.N
  seed : c2.seed = c.seed
  iv : c2.iv = c.iv
  A : s2.A = s.A
  vals : ∀ k, s2.V k = s.V k
  last : s2.last = s.last
  ls : s2.ls = s.ls
  sn : s2.sn = s.sn
theorem fork15_made {w w1 w2 w4 wr : World} {c : R15C} {s : R15V} {m : Nat} (k : R15At w c s m) {F mb2 sb2 : Nat} {mv2 sv2 rv2 : Value} {RS2 : List RW} (hb : Below w.heap.size w w4)
    (h1 : RefM w4 mb2 c.N mv2 s.A) (o1 : ∀ i, Rown mb2 mv2 i → w.heap.size ≤ i ∧ i < w1.heap.size) (h2 : R6At w4 sb2 (sh15 c.R c.seed) s.ls sv2 s.sn) (o2 : ∀ i, R6Own sb2 sv2 i → w1.heap.size ≤ i ∧ i < w2.heap.size)
    (hF : w2.heap.size = F) (h4 : w4.heap.size = F + 1) (h12 : w.heap.size ≤ w1.heap.size) (h23 : w1.heap.size ≤ w2.heap.size) (K : Fk15 w4 wr (c.R.secs * 100000) s.RS F rv2 RS2 s.RS.length)
    (hh : wr.heap[F]? = some (.cells (r15Cells ⟨c.R, c.seed, F, mb2, c.N, sb2, c.iv⟩ ⟨mv2, s.A, rv2, RS2, s.last, s.ls, s.sn, sv2⟩) 76)) :
    Fork15 w c s m wr ⟨c.R, c.seed, F, mb2, c.N, sb2, c.iv⟩ ⟨mv2, s.A, rv2, RS2, s.last, s.ls, s.sn, sv2⟩ := by
  have hsrc : RS2.map RW.abs = s.RS.map RW.abs := by
    have := K.src
    rwa [List.take_of_length_le (Nat.le_refl _)] at this
  have hfind := findR_abs hsrc
  have hbr : Below w.heap.size w wr := hb.trans (K.off.below hb.size (fun i hi e => by have e : i = F := e; omega))
  have hk4 : ∀ i, i < F → wr.heap[i]? = w4.heap[i]? := fun i hi => K.off.block i (by omega) (fun e => by have e : i = F := e; omega)
  have hmem : ∀ y, y ∈ RS2 → ∃ x, x ∈ s.RS ∧ x.abs = y.abs := fun y hy => by
    have : y.abs ∈ s.RS.map RW.abs := by rw [← hsrc]; exact List.mem_map.2 ⟨y, hy, rfl⟩
    exact List.mem_map.1 this
  have hrow0 : wr.ownsRow 0 85 2 rv2 RS2.length (flatW RS2) := by
    rw [K.len]
    exact ⟨K.row.1, by
      rcases K.row.2 with h | ⟨g, cap, cur, e, hb, r⟩
      · exact Or.inl h
      · exact Or.inr ⟨g, cap, cur, e, Nat.zero_le _, r⟩⟩
  obtain ⟨f, hf⟩ := K.col
  have hkeys : RS2.map (·.key) = s.RS.map (·.key) := by
    have := congrArg (List.map (·.1)) hsrc
    rw [List.map_map, List.map_map] at this
    exact this
  refine ⟨⟨⟨hh, k.fine, rowKept3 k.its (fun g e => hbr.block g (k.its.lt g e).2), h1.kept (fun i hi => hk4 i (by have := (o1 i hi).2; omega)) K.off.size, k.kn, k.kl, hrow0, fun y hy => ?_, K.ps, by show (RS2.map (·.key)).Nodup; rw [hkeys]; exact k.rk,
    r6_kept h2 (fun i hi => hk4 i (by have := (o2 i hi).2; omega)), k.lsl, k.skf, k.l0, k.l1, k.s0, k.s1, fun i => if i < w.heap.size then 5 else if i < w1.heap.size then 1 else if i < w2.heap.size then 2 else if i = F then 4 else if rv2.ownBlock = some i then 3 else f i, ?_⟩, fun q => ?_⟩, fun i hi => ?_, hbr, rfl, rfl, rfl, rfl, rfl, fun q => ?_, rfl, rfl, rfl⟩
  · obtain ⟨x, hx, e⟩ := hmem y hy
    have e2 : x.last = y.last := congrArg (·.2.1) e
    have e3 : x.notes = y.notes := congrArg (·.2.2.1) e
    have h := k.wins x hx
    exact ⟨K.wins y hy, by rw [← e2]; exact h.2.1, by rw [← e3]; exact h.2.2⟩
  · refine ⟨fun i hi => ?_, fun i hi => ?_, fun i hi => ?_, ?_, fun i hi => ?_, fun y hy i hi => ?_⟩
    · have := o1 i hi
      show (if i < w.heap.size then 5 else if i < w1.heap.size then 1 else if i < w2.heap.size then 2 else if i = F then 4 else if rv2.ownBlock = some i then 3 else f i) = 1
      rw [if_neg (by omega), if_pos (by omega)]
    · have := o2 i hi
      show (if i < w.heap.size then 5 else if i < w1.heap.size then 1 else if i < w2.heap.size then 2 else if i = F then 4 else if rv2.ownBlock = some i then 3 else f i) = 2
      rw [if_neg (by omega), if_neg (by omega), if_pos (by omega)]
    · have := (K.row.lt i hi).1
      have hi : rv2.ownBlock = some i := hi
      show (if i < w.heap.size then 5 else if i < w1.heap.size then 1 else if i < w2.heap.size then 2 else if i = F then 4 else if rv2.ownBlock = some i then 3 else f i) = 3
      rw [if_neg (by omega), if_neg (by omega), if_neg (by omega), if_neg (by omega), if_pos hi]
    · show (if F < w.heap.size then 5 else if F < w1.heap.size then 1 else if F < w2.heap.size then 2 else if F = F then 4 else if rv2.ownBlock = some F then 3 else f F) = 4
      rw [if_neg (by omega), if_neg (by omega), if_neg (by omega), if_pos rfl]
    · have := (k.its.lt i hi).2
      show (if i < w.heap.size then 5 else if i < w1.heap.size then 1 else if i < w2.heap.size then 2 else if i = F then 4 else if rv2.ownBlock = some i then 3 else f i) = 5
      rw [if_pos this]
    · have := K.at_ y hy i hi
      have hne := row_win K.row (K.wins y hy) hi
      show (if i < w.heap.size then 5 else if i < w1.heap.size then 1 else if i < w2.heap.size then 2 else if i = F then 4 else if rv2.ownBlock = some i then 3 else f i) = 6 + y.p
      rw [if_neg (by omega), if_neg (by omega), if_neg (by omega), if_neg (by omega), if_neg hne]
      exact hf y hy i hi
  · show hasA s.A q = (findR RS2 q).isSome
    rw [k.same q]
    have := congrArg Option.isSome (hfind q)
    rw [Option.isSome_map, Option.isSome_map] at this
    exact this.symm
  · rcases hi with h | h | h | h | ⟨y, hy, h⟩
    · exact (o1 i h).1
    · have := (o2 i h).1; omega
    · have h : i = F := h
      omega
    · have := (K.row.lt i h).1; omega
    · have := K.at_ y hy i h; omega
  · show (findR RS2 q).map (·.notes) = (findR s.RS q).map (·.notes)
    have := congrArg (Option.map (·.2.2.1)) (hfind q)
    rw [Option.map_map, Option.map_map] at this
    exact this
end Go.Proofs.YtemlafbkkaloiaaGreat
namespace Go.Proofs.YtemlafbkkaloiaaGreat
open Go.RowKit
set_option maxHeartbeats 12800000 in
set_option maxRecDepth 100000 in
theorem r15fork_any {w : World} {c : R15C} {s : R15V} {m : Nat} (k : R15At w c s m) (hm : m ≤ 1000000) (hf : s.RS.length ≤ 4096) :
    Calls Tryz.prog 9 #[.pointer (some ⟨c.hb, 0, none⟩)] w fun e w' => ∃ c2 s2, e = .returned (.pointer (some ⟨c2.hb, 0, none⟩)) ∧ Fork15 w c s m w' c2 s2 := by
  have K := Lib.hid k
  have HSX := Lib.hid (show ∀ wx, Below w.heap.size w wx → (fun wx => wx.cell? ⟨c.hb, 0, none⟩ = some (.string c.R.res) ∧ wx.cell? ⟨c.hb, 1, none⟩ = some (.int .i64 c.R.idx) ∧ wx.cell? ⟨c.hb, 2, none⟩ = some (.int .i64 c.R.cnt) ∧ wx.cell? ⟨c.hb, 3, none⟩ = some (.int .i64 c.R.secs) ∧ wx.cell? ⟨c.hb, 4, none⟩ = some c.iv ∧ wx.cell? ⟨c.hb, 5, none⟩ = some (.pointer (some ⟨c.mb, 0, none⟩)) ∧ wx.cell? ⟨c.hb, 7, none⟩ = some (.pointer (some ⟨c.sb, 0, none⟩)) ∧ wx.cell? ⟨c.hb, 8, none⟩ = some (.int .i64 s.last)) wx from fun wx hb => by
    obtain ⟨q0, q1, q2, q3, q4, q5, _, q7, q8⟩ := (k.toRCore.below hb).cells
    exact ⟨q0, q1, q2, q3, q4, q5, q7, q8⟩)
  have HMF := rfork_any (k.toRCore.below (Below.refl _ _).drew).map
  rw [show w.drew.heap.size = w.heap.size from rfl] at HMF
  have HMF := Lib.hid HMF
  have HSF := Lib.hid (show ∀ w2, Below w.heap.size w w2 → Calls Tryz.prog 32 #[.pointer (some ⟨c.sb, 0, none⟩)] w2 _ from fun w2 h2 => r6fork_any (k.toRCore.below h2).sk (by have := k.skf; omega))
  have HM := Lib.hid hm
  have hlf : s.RS.length ≤ 4096 := hf
  have HBL := Lib.hid k.hbLt
  obtain ⟨pr_, capr, hrv, hrc⟩ := k.toRCore.rowForm
  have C6 := Lib.hid k.toRCore.cells.2.2.2.2.2.2.1
  rw [hrv] at C6
  obtain ⟨len, hlen⟩ : ∃ len, s.RS.length = len := ⟨_, rfl⟩
  have HLEN := Lib.hid hlen
  rw [hlen] at C6 hlf
  have HRC := Lib.hid hrc
  clear k hrv hrc hlen hf
  go_enter Tryz.func9, Tryz.ntmps9
  go_wp2_with (fail)
  refine wp_region_noPanic ?_
  refine wp_region_held_drew (S := (fun wx => wx.cell? ⟨c.hb, 0, none⟩ = some (.string c.R.res) ∧ wx.cell? ⟨c.hb, 1, none⟩ = some (.int .i64 c.R.idx) ∧ wx.cell? ⟨c.hb, 2, none⟩ = some (.int .i64 c.R.cnt) ∧ wx.cell? ⟨c.hb, 3, none⟩ = some (.int .i64 c.R.secs) ∧ wx.cell? ⟨c.hb, 4, none⟩ = some c.iv ∧ wx.cell? ⟨c.hb, 5, none⟩ = some (.pointer (some ⟨c.mb, 0, none⟩)) ∧ wx.cell? ⟨c.hb, 7, none⟩ = some (.pointer (some ⟨c.sb, 0, none⟩)) ∧ wx.cell? ⟨c.hb, 8, none⟩ = some (.int .i64 s.last))) (by kernel_rfl) ?_ (fun hHeld => ?_)
  · exact HSX.out _ (Below.refl _ _).drew
  refine wpAnyH_take (i := 0) (v := ?_) rfl (by kernel_rfl) (by kernel_rfl) (by kernel_rfl) (fun _ _ _ h => h) (Or.inl ⟨by rfl, ?hy⟩) (by assumption) ?_
  case hy => intro w hSw; (try dsimp only at hSw); go_simp; try with_reducible rfl
  try simp only [Act.put, szA, szB, szC, szD, szE, szF]
  refine wpAnyH_take (i := 1) (v := ?_) rfl (by kernel_rfl) (by kernel_rfl) (by kernel_rfl) (fun _ _ _ h => h) (Or.inl ⟨by rfl, ?hy⟩) (by assumption) ?_
  case hy => intro w hSw; (try dsimp only at hSw); go_simp; try with_reducible rfl
  try simp only [Act.put, szA, szB, szC, szD, szE, szF]
  refine wpAnyH_take (i := 2) (v := ?_) rfl (by kernel_rfl) (by kernel_rfl) (by kernel_rfl) (fun _ _ _ h => h) (Or.inl ⟨by rfl, ?hy⟩) (by assumption) ?_
  case hy => intro w hSw; (try dsimp only at hSw); go_simp; try with_reducible rfl
  try simp only [Act.put, szA, szB, szC, szD, szE, szF]
  refine wpAnyH_take (i := 3) (v := ?_) rfl (by kernel_rfl) (by kernel_rfl) (by kernel_rfl) (fun _ _ _ h => h) (Or.inl ⟨by rfl, ?hy⟩) (by assumption) ?_
  case hy => intro w hSw; (try dsimp only at hSw); go_simp; try with_reducible rfl
  try simp only [Act.put, szA, szB, szC, szD, szE, szF]
  refine wpAnyH_take (i := 4) (v := ?_) rfl (by kernel_rfl) (by kernel_rfl) (by kernel_rfl) (fun _ _ _ h => h) (Or.inl ⟨by rfl, ?hy⟩) (by assumption) ?_
  case hy => intro w hSw; (try dsimp only at hSw); go_simp; try with_reducible rfl
  try simp only [Act.put, szA, szB, szC, szD, szE, szF]
  refine wpAnyH_take (i := 5) (v := ?_) rfl (by kernel_rfl) (by kernel_rfl) (by kernel_rfl) (fun _ _ _ h => h) (Or.inl ⟨by rfl, ?hy⟩) (by assumption) ?_
  case hy => intro w hSw; (try dsimp only at hSw); go_simp; try with_reducible rfl
  try simp only [Act.put, szA, szB, szC, szD, szE, szF]
  refine wpAnyH_take (i := 6) (v := ?_) rfl (by kernel_rfl) (by kernel_rfl) (by kernel_rfl) (fun _ _ _ h => h) (Or.inl ⟨by rfl, ?hy⟩) (by assumption) ?_
  case hy => intro w hSw; (try dsimp only at hSw); go_simp; try with_reducible rfl
  try simp only [Act.put, szA, szB, szC, szD, szE, szF]
  refine wpAnyH_take (i := 7) (v := ?_) rfl (by kernel_rfl) (by kernel_rfl) (by kernel_rfl) (fun _ _ _ h => h) (Or.inl ⟨by rfl, ?hy⟩) (by assumption) ?_
  case hy => intro w hSw; (try dsimp only at hSw); go_simp; try with_reducible rfl
  try simp only [Act.put, szA, szB, szC, szD, szE, szF]
  refine wpAnyH_take (i := 9) (v := ?_) rfl (by kernel_rfl) (by kernel_rfl) (by kernel_rfl) (fun _ _ _ h => h) (Or.inl ⟨by rfl, ?hy⟩) (by assumption) ?_
  case hy => intro w hSw; (try dsimp only at hSw); go_simp; try with_reducible rfl
  try simp only [Act.put, szA, szB, szC, szD, szE, szF]
  refine wpAnyH_take (i := 10) (v := ?_) rfl (by kernel_rfl) (by kernel_rfl) (by kernel_rfl) (fun _ _ _ h => h) (Or.inl ⟨by rfl, ?hy⟩) (by assumption) ?_
  case hy => intro w hSw; (try dsimp only at hSw); go_simp; try with_reducible rfl
  try simp only [Act.put, szA, szB, szC, szD, szE, szF]
  refine wpAnyH_take (i := 11) (v := ?_) rfl (by kernel_rfl) (by kernel_rfl) (by kernel_rfl) (fun _ _ _ h => h) (Or.inl ⟨by rfl, ?hy⟩) (by assumption) ?_
  case hy => intro w hSw; (try dsimp only at hSw); go_simp; try with_reducible rfl
  try simp only [Act.put, szA, szB, szC, szD, szE, szF]
  refine wpAnyH_take (i := 12) (v := ?_) rfl (by kernel_rfl) (by kernel_rfl) (by kernel_rfl) (fun _ _ _ h => h) (Or.inl ⟨by rfl, ?hy⟩) (by assumption) ?_
  case hy => intro w hSw; (try dsimp only at hSw); go_simp; try with_reducible rfl
  try simp only [Act.put, szA, szB, szC, szD, szE, szF]
  refine wpAnyH_take (i := 14) (v := ?_) rfl (by kernel_rfl) (by kernel_rfl) (by kernel_rfl) (fun _ _ _ h => h) (Or.inl ⟨by rfl, ?hy⟩) (by assumption) ?_
  case hy => intro w hSw; (try dsimp only at hSw); go_simp; try with_reducible rfl
  try simp only [Act.put, szA, szB, szC, szD, szE, szF]
  refine wpAnyH_take (i := 15) (v := ?_) rfl (by kernel_rfl) (by kernel_rfl) (by kernel_rfl) (fun _ _ _ h => h) (Or.inl ⟨by rfl, ?hy⟩) (by assumption) ?_
  case hy => intro w hSw; (try dsimp only at hSw); go_simp; try with_reducible rfl
  try simp only [Act.put, szA, szB, szC, szD, szE, szF]
  refine wpAnyH_take (i := 16) (v := ?_) rfl (by kernel_rfl) (by kernel_rfl) (by kernel_rfl) (fun _ _ _ h => h) (Or.inl ⟨by rfl, ?hy⟩) (by assumption) ?_
  case hy => intro w hSw; (try dsimp only at hSw); go_simp; try with_reducible rfl
  try simp only [Act.put, szA, szB, szC, szD, szE, szF]
  refine wpAnyH_take (i := 17) (v := ?_) rfl (by kernel_rfl) (by kernel_rfl) (by kernel_rfl) (fun _ _ _ h => h) (Or.inl ⟨by rfl, ?hy⟩) (by assumption) ?_
  case hy => intro w hSw; (try dsimp only at hSw); go_simp; try with_reducible rfl
  try simp only [Act.put, szA, szB, szC, szD, szE, szF]
  refine wpAnyH_ready (rs := [8]) (by kernel_rfl) (by simp) (AllReadyH.cons rfl (fun K hK => ?_) AllReadyH.nil)
  go_simp
  go_at_call 31; refine HMF.out.mono ?_; rintro e w1 ⟨rfl, mv2, hm2, hb1⟩
  have HB1 := Lib.hid (show Below w.heap.size w w1 from (Below.refl _ _).drew.trans hb1)
  try (go_wp2_with fail)
  refine hK.out _ _ ?_ (fun hHeld => ?_)
  · exact HSX.out _ HB1.out
  clear hK K
  try simp only [Act.put, szA, szB, szC, szD, szE, szF]
  refine wpAnyH_ready (rs := [13]) (by kernel_rfl) (by simp) (AllReadyH.cons rfl (fun K hK => ?_) AllReadyH.nil)
  go_simp
  go_at_call 32; refine (HSF.out w1 HB1.out).mono ?_; rintro e w2 ⟨sv2, rfl, hs2, hb2, ho2⟩
  have HB2 := Lib.hid (show Below w.heap.size w w2 from HB1.out.trans (hb2.mono HB1.out.size))
  try (go_wp2_with fail)
  refine hK.out _ _ ?_ (fun hHeld => ?_)
  · exact HSX.out _ HB2.out
  clear hK K
  try simp only [Act.put, szA, szB, szC, szD, szE, szF]
  refine wpAnyH_take (i := 18) (v := ?_) rfl (by kernel_rfl) (by kernel_rfl) (by kernel_rfl) (fun _ _ _ h => h) (Or.inl ⟨by rfl, ?hy⟩) (by assumption) ?_
  case hy => intro w hSw; (try dsimp only at hSw); go_simp; try with_reducible rfl
  try simp only [Act.put, szA, szB, szC, szD, szE, szF]
  refine wpAnyH_ready (rs := [19]) (by kernel_rfl) (by simp) (AllReadyH.cons rfl (fun K hK => ?_) AllReadyH.nil)
  go_simp
  skip
  try (go_wp2_with fail)
  refine hK.out _ _ ?_ (fun hHeld => ?_)
  · exact HSX.out _ (HB2.out.alloc HB2.out.size _)
  clear hK K
  try simp only [Act.put, szA, szB, szC, szD, szE, szF]
  refine wpAnyH_take (i := 20) (v := ?_) rfl (by kernel_rfl) (by kernel_rfl) (by kernel_rfl) (fun _ _ _ h => h) (Or.inl ⟨by rfl, ?hy⟩) (by assumption) ?_
  case hy => intro w hSw; (try dsimp only at hSw); go_simp; try with_reducible rfl
  try simp only [Act.put, szA, szB, szC, szD, szE, szF]
  refine wpAnyH_done (by kernel_rfl) ?_ _
  refine NoPanic.normal ?_
  have HM2 := Lib.hid (hm2.below hb2)
  have HR2 := Lib.hid hs2
  have HO1 := Lib.hid (show ∀ i, Rown w.heap.size mv2 i → w.heap.size ≤ i ∧ i < w1.heap.size from fun i hi => ⟨(hm2.lt hi).2, (hm2.lt hi).1⟩)
  have HO2 := Lib.hid (show ∀ i, R6Own w1.heap.size sv2 i → w1.heap.size ≤ i ∧ i < w2.heap.size from fun i hi => ⟨ho2 i hi, by
    rcases hi with rfl | h
    · exact (Array.getElem?_eq_some_iff.1 hs2.head).1
    · exact (hs2.row.lt i h).2⟩)
  have HSZ := Lib.hid (show w.heap.size ≤ w1.heap.size ∧ w1.heap.size ≤ w2.heap.size from ⟨HB1.out.size, hb2.size⟩)
  obtain ⟨F, hF⟩ : ∃ F, w2.heap.size = F := ⟨_, rfl⟩
  have HFF := Lib.hid hF
  have hn4 : (w2.alloc (.cells #[.string c.R.res, .int .i64 c.R.idx, .int .i64 c.R.cnt, .int .i64 c.R.secs, c.iv, .pointer (some ⟨w.heap.size, 0, none⟩), .slice none 0 0, .pointer (some ⟨w1.heap.size, 0, none⟩), .int .i64 s.last] 76)).heap[F]? = some (.cells #[.string c.R.res, .int .i64 c.R.idx, .int .i64 c.R.cnt, .int .i64 c.R.secs, c.iv, .pointer (some ⟨w.heap.size, 0, none⟩), .slice none 0 0, .pointer (some ⟨w1.heap.size, 0, none⟩), .int .i64 s.last] 76) := by rw [get_allocW, if_pos hF.symm]
  have hz4 : (w2.alloc (.cells #[.string c.R.res, .int .i64 c.R.idx, .int .i64 c.R.cnt, .int .i64 c.R.secs, c.iv, .pointer (some ⟨w.heap.size, 0, none⟩), .slice none 0 0, .pointer (some ⟨w1.heap.size, 0, none⟩), .int .i64 s.last] 76)).heap.size = F + 1 := by rw [World.size_alloc, hF]
  have hb4 : Below w.heap.size w (w2.alloc (.cells #[.string c.R.res, .int .i64 c.R.idx, .int .i64 c.R.cnt, .int .i64 c.R.secs, c.iv, .pointer (some ⟨w.heap.size, 0, none⟩), .slice none 0 0, .pointer (some ⟨w1.heap.size, 0, none⟩), .int .i64 s.last] 76)) := HB2.out.alloc HB2.out.size _
  have hm4 := HM2.out.below (show Below w2.heap.size w2 (w2.alloc (.cells #[.string c.R.res, .int .i64 c.R.idx, .int .i64 c.R.cnt, .int .i64 c.R.secs, c.iv, .pointer (some ⟨w.heap.size, 0, none⟩), .slice none 0 0, .pointer (some ⟨w1.heap.size, 0, none⟩), .int .i64 s.last] 76)) from (Below.refl _ _).alloc (Nat.le_refl _) _)
  have hr4 := r6_kept (w' := w2.alloc (.cells #[.string c.R.res, .int .i64 c.R.idx, .int .i64 c.R.cnt, .int .i64 c.R.secs, c.iv, .pointer (some ⟨w.heap.size, 0, none⟩), .slice none 0 0, .pointer (some ⟨w1.heap.size, 0, none⟩), .int .i64 s.last] 76)) HR2.out (fun i hi => Below.heap_alloc w2 _ i (HO2.out i hi).2)
  obtain ⟨MB, hMB⟩ : ∃ MB, w.heap.size = MB := ⟨_, rfl⟩
  obtain ⟨SB, hSB⟩ : ∃ SB, w1.heap.size = SB := ⟨_, rfl⟩
  have HMB := Lib.hid hMB
  have HSB := Lib.hid hSB
  rw [hMB, hSB] at hn4 hz4 hb4 hm4 hr4
  rw [hF, hMB, hSB]
  obtain ⟨w4, hw4⟩ : ∃ w4, w2.alloc (.cells #[.string c.R.res, .int .i64 c.R.idx, .int .i64 c.R.cnt, .int .i64 c.R.secs, c.iv, .pointer (some ⟨MB, 0, none⟩), .slice none 0 0, .pointer (some ⟨SB, 0, none⟩), .int .i64 s.last] 76) = w4 := ⟨_, rfl⟩
  rw [hw4] at hn4 hz4 hb4 hm4 hr4 ⊢
  have HN4 := Lib.hid hn4
  have HZ4 := Lib.hid hz4
  have HB4 := Lib.hid (show Below w.heap.size w w4 by rw [hMB]; exact hb4)
  have HM4 := Lib.hid hm4
  have HR4 := Lib.hid hr4
  have HF4 := Lib.hid (show F < w4.heap.size by omega)
  clear hw4 hn4 hz4 hb4 hm4 hr4 hm2 hb1 hs2 hb2 ho2 HM2 HR2 hHeld HSF HMF HSX hF hMB hSB
  go_wp2_with (fail)
  go_loopw [4] (fun i wr => ∃ j : Nat, j ≤ len ∧ i = .int .i64 j ∧ ∃ rv RS2, Hid (Fk15 w4 wr (c.R.secs * 100000) s.RS F rv RS2 j) ∧ Hid (wr.heap[F]? = some (.cells #[.string c.R.res, .int .i64 c.R.idx, .int .i64 c.R.cnt, .int .i64 c.R.secs, c.iv, .pointer (some ⟨MB, 0, none⟩), rv, .pointer (some ⟨SB, 0, none⟩), .int .i64 s.last] 76))) (fun i _ => len - (intOf i).toNat)
  case atStart => exact ⟨0, Nat.zero_le _, rfl, _, _, Lib.hid Fk15.start, HN4⟩
  case round =>
    rename World => wr
    obtain ⟨j, hj, rfl, rv, RS2, HK, HH⟩ := hrel
    have hz4r := HK.out.off.size
    have HFL := Lib.hid (show F < wr.heap.size by have := HF4.out; omega)
    have hbr : Below w.heap.size w wr := HB4.out.trans (HK.out.off.below HB4.out.size (fun i hi e => by have e : i = F := e; have h1 := HFF.out; have h2 := HB2.out.size; omega))
    have c6 := (hbr.cell (p := ⟨c.hb, 6, none⟩) HBL.out).trans C6.out
    have k0 : (0 : Int) ≤ j := by omega
    by_cases hlt : j < len
    · have k1 : (j : Int) < len := by omega
      obtain ⟨x, hx⟩ : ∃ x, s.RS[j]? = some x := ⟨_, List.getElem?_eq_getElem (by rw [HLEN.out]; exact hlt)⟩
      have HX := Lib.hid hx
      obtain ⟨g, rfl, hg, d0, d1⟩ := HRC.out j x hx
      have HGL := Lib.hid hg
      have d0 := (hbr.cell (p := ⟨g, j * 2, none⟩) hg).trans d0
      have d1 := (hbr.cell (p := ⟨g, j * 2 + 1, none⟩) hg).trans d1
      have hxw := K.out.wins x (List.mem_of_getElem? hx)
      have HWF := Lib.hid (w3fork_any ((hxw.1.below hbr).below (Below.refl _ _).drew) (by have h1 := hxw.1.inv.len; have h2 := hxw.2.2; have h3 := HM.out; omega))
      rw [show wr.drew.heap.size = wr.heap.size from rfl] at HWF
      have HROW := Lib.hid (show ∀ wf, Below wr.heap.size wr wf → wf.ownsRow w4.heap.size 85 2 rv j (flatW RS2) from fun wf hb => rowKept3 HK.out.row (fun g e => hb.block g (HK.out.row.lt g e).2))
      have HJS := Lib.hid (show j ≤ 1048576 by omega)
      have CF := Lib.hid (show wr.cell? ⟨F, 6, none⟩ = some rv by simp only [World.cell?, HH.out]; rfl)
      have cF := CF.out
      have HLT4 := Lib.hid (show c.hb < w4.heap.size ∧ g < w4.heap.size ∧ c.hb ≠ F ∧ g ≠ F by
        have h1 := HBL.out; have h2 := HB4.out.size; have h3 := HB2.out.size; have h4 := HFF.out; omega)
      have HKP := Lib.hid (show ∀ wx : World, (∀ i, i < w4.heap.size → wx.heap[i]? = wr.heap[i]?) → (fun wx => wx.cell? ⟨c.hb, 6, none⟩ = some (.slice (some ⟨g, 0, none⟩) len capr) ∧ wx.cell? ⟨g, j * 2, none⟩ = some (.string x.key) ∧ wx.cell? ⟨g, j * 2 + 1, none⟩ = some (.pointer (some ⟨x.p, 0, none⟩))) wx from fun wx h => ⟨(World.cell?_of_block (a := ⟨c.hb, 6, none⟩) (h c.hb HLT4.out.1)).trans c6, (World.cell?_of_block (a := ⟨g, j * 2, none⟩) (h g HLT4.out.2.1)).trans d0, (World.cell?_of_block (a := ⟨g, j * 2 + 1, none⟩) (h g HLT4.out.2.1)).trans d1⟩)
      have HKS := Lib.hid (show ∀ (wx : World) (u : Value), (fun wx => wx.cell? ⟨c.hb, 6, none⟩ = some (.slice (some ⟨g, 0, none⟩) len capr) ∧ wx.cell? ⟨g, j * 2, none⟩ = some (.string x.key) ∧ wx.cell? ⟨g, j * 2 + 1, none⟩ = some (.pointer (some ⟨x.p, 0, none⟩))) wx → (fun wx => wx.cell? ⟨c.hb, 6, none⟩ = some (.slice (some ⟨g, 0, none⟩) len capr) ∧ wx.cell? ⟨g, j * 2, none⟩ = some (.string x.key) ∧ wx.cell? ⟨g, j * 2 + 1, none⟩ = some (.pointer (some ⟨x.p, 0, none⟩))) (wx.setCell ⟨F, 6, none⟩ u) from fun wx u h => ⟨(World.cell?_of_block (a := ⟨c.hb, 6, none⟩) (heap_setCell_other wx ⟨F, 6, none⟩ c.hb _ HLT4.out.2.2.1)).trans h.1, (World.cell?_of_block (a := ⟨g, j * 2, none⟩) (heap_setCell_other wx ⟨F, 6, none⟩ g _ HLT4.out.2.2.2)).trans h.2.1, (World.cell?_of_block (a := ⟨g, j * 2 + 1, none⟩) (heap_setCell_other wx ⟨F, 6, none⟩ g _ HLT4.out.2.2.2)).trans h.2.2⟩)
      clear hx hg hbr hxw hz4r
      go_wp2_with (fail)
      refine wp_region_noPanic ?_
      refine wp_region_held_drew (S := (fun wx => wx.cell? ⟨c.hb, 6, none⟩ = some (.slice (some ⟨g, 0, none⟩) len capr) ∧ wx.cell? ⟨g, j * 2, none⟩ = some (.string x.key) ∧ wx.cell? ⟨g, j * 2 + 1, none⟩ = some (.pointer (some ⟨x.p, 0, none⟩)))) (by kernel_rfl) ?_ (fun hHeld => ?_)
      · exact ⟨c6, d0, d1⟩
      clear c6 d0 d1
      refine wpAnyH_take (i := 0) (v := ?_) rfl (by kernel_rfl) (by kernel_rfl) (by kernel_rfl) (fun _ _ _ h => h) (Or.inl ⟨by rfl, ?hy⟩) (by assumption) ?_
      case hy => intro w hSw; (try dsimp only at hSw); go_simp; try with_reducible rfl
      try simp only [Act.put, szA, szB, szC, szD, szE, szF]
      refine wpAnyH_take (i := 1) (v := ?_) rfl (by kernel_rfl) (by kernel_rfl) (by kernel_rfl) (fun _ _ _ h => h) (Or.inl ⟨by rfl, ?hy⟩) (by assumption) ?_
      case hy => intro w hSw; (try dsimp only at hSw); go_simp; try with_reducible rfl
      try simp only [Act.put, szA, szB, szC, szD, szE, szF]
      refine wpAnyH_take (i := 2) (v := ?_) rfl (by kernel_rfl) (by kernel_rfl) (by kernel_rfl) (fun _ _ _ h => h) (Or.inl ⟨by rfl, ?hy⟩) (by assumption) ?_
      case hy => intro w hSw; (try dsimp only at hSw); go_simp; try with_reducible rfl
      try simp only [Act.put, szA, szB, szC, szD, szE, szF]
      refine wpAnyH_take (i := 3) (v := ?_) rfl (by kernel_rfl) (by kernel_rfl) (by kernel_rfl) (fun _ _ _ h => h) (Or.inl ⟨by rfl, ?hy⟩) (by assumption) ?_
      case hy => intro w hSw; (try dsimp only at hSw); go_simp; try with_reducible rfl
      try simp only [Act.put, szA, szB, szC, szD, szE, szF]
      refine wpAnyH_take (i := 5) (v := ?_) rfl (by kernel_rfl) (by kernel_rfl) (by kernel_rfl) (fun _ _ _ h => h) (Or.inl ⟨by rfl, ?hy⟩) (by assumption) ?_
      case hy => intro w hSw; (try dsimp only at hSw); go_simp; try with_reducible rfl
      try simp only [Act.put, szA, szB, szC, szD, szE, szF]
      refine wpAnyH_take (i := 6) (v := ?_) rfl (by kernel_rfl) (by kernel_rfl) (by kernel_rfl) (fun _ _ _ h => h) (Or.inl ⟨by rfl, ?hy⟩) (by assumption) ?_
      case hy => intro w hSw; (try dsimp only at hSw); go_simp; try with_reducible rfl
      try simp only [Act.put, szA, szB, szC, szD, szE, szF]
      refine wpAnyH_take (i := 7) (v := ?_) rfl (by kernel_rfl) (by kernel_rfl) (by kernel_rfl) (fun _ _ _ h => h) (Or.inl ⟨by rfl, ?hy⟩) (by assumption) ?_
      case hy => intro w hSw; (try dsimp only at hSw); go_simp; try with_reducible rfl
      try simp only [Act.put, szA, szB, szC, szD, szE, szF]
      refine wpAnyH_take (i := 8) (v := ?_) rfl (by kernel_rfl) (by kernel_rfl) (by kernel_rfl) (fun _ _ _ h => h) (Or.inl ⟨by rfl, ?hy⟩) (by assumption) ?_
      case hy => intro w hSw; (try dsimp only at hSw); go_simp; try with_reducible rfl
      try simp only [Act.put, szA, szB, szC, szD, szE, szF]
      refine wpAnyH_take (i := 9) (v := ?_) rfl (by kernel_rfl) (by kernel_rfl) (by kernel_rfl) (fun _ _ _ h => h) (Or.inl ⟨by rfl, ?hy⟩) (by assumption) ?_
      case hy => intro w hSw; (try dsimp only at hSw); go_simp; try with_reducible rfl
      try simp only [Act.put, szA, szB, szC, szD, szE, szF]
      refine wpAnyH_take (i := 10) (v := ?_) rfl (by kernel_rfl) (by kernel_rfl) (by kernel_rfl) (fun _ _ _ h => h) (Or.inl ⟨by rfl, ?hy⟩) (by assumption) ?_
      case hy => intro w hSw; (try dsimp only at hSw); go_simp; try with_reducible rfl
      try simp only [Act.put, szA, szB, szC, szD, szE, szF]
      refine wpAnyH_take (i := 11) (v := ?_) rfl (by kernel_rfl) (by kernel_rfl) (by kernel_rfl) (fun _ _ _ h => h) (Or.inl ⟨by rfl, ?hy⟩) (by assumption) ?_
      case hy => intro w hSw; (try dsimp only at hSw); go_simp; try with_reducible rfl
      try simp only [Act.put, szA, szB, szC, szD, szE, szF]
      refine wpAnyH_take (i := 12) (v := ?_) rfl (by kernel_rfl) (by kernel_rfl) (by kernel_rfl) (fun _ _ _ h => h) (Or.inl ⟨by rfl, ?hy⟩) (by assumption) ?_
      case hy => intro w hSw; (try dsimp only at hSw); go_simp; try with_reducible rfl
      try simp only [Act.put, szA, szB, szC, szD, szE, szF]
      refine wpAnyH_take (i := 13) (v := ?_) rfl (by kernel_rfl) (by kernel_rfl) (by kernel_rfl) (fun _ _ _ h => h) (Or.inl ⟨by rfl, ?hy⟩) (by assumption) ?_
      case hy => intro w hSw; (try dsimp only at hSw); go_simp; try with_reducible rfl
      try simp only [Act.put, szA, szB, szC, szD, szE, szF]
      refine wpAnyH_take (i := 14) (v := ?_) rfl (by kernel_rfl) (by kernel_rfl) (by kernel_rfl) (fun _ _ _ h => h) (Or.inl ⟨by rfl, ?hy⟩) (by assumption) ?_
      case hy => intro w hSw; (try dsimp only at hSw); go_simp; try with_reducible rfl
      try simp only [Act.put, szA, szB, szC, szD, szE, szF]
      refine wpAnyH_take (i := 15) (v := ?_) rfl (by kernel_rfl) (by kernel_rfl) (by kernel_rfl) (fun _ _ _ h => h) (Or.inl ⟨by rfl, ?hy⟩) (by assumption) ?_
      case hy => intro w hSw; (try dsimp only at hSw); go_simp; try with_reducible rfl
      try simp only [Act.put, szA, szB, szC, szD, szE, szF]
      refine wpAnyH_take (i := 16) (v := ?_) rfl (by kernel_rfl) (by kernel_rfl) (by kernel_rfl) (fun _ _ _ h => h) (Or.inl ⟨by rfl, ?hy⟩) (by assumption) ?_
      case hy => intro w hSw; (try dsimp only at hSw); go_simp; try with_reducible rfl
      try simp only [Act.put, szA, szB, szC, szD, szE, szF]
      refine wpAnyH_take (i := 17) (v := ?_) rfl (by kernel_rfl) (by kernel_rfl) (by kernel_rfl) (fun _ _ _ h => h) (Or.inl ⟨by rfl, ?hy⟩) (by assumption) ?_
      case hy => intro w hSw; (try dsimp only at hSw); go_simp; try with_reducible rfl
      try simp only [Act.put, szA, szB, szC, szD, szE, szF]
      refine wpAnyH_take (i := 18) (v := ?_) rfl (by kernel_rfl) (by kernel_rfl) (by kernel_rfl) (fun _ _ _ h => h) (Or.inl ⟨by rfl, ?hy⟩) (by assumption) ?_
      case hy => intro w hSw; (try dsimp only at hSw); go_simp; try with_reducible rfl
      try simp only [Act.put, szA, szB, szC, szD, szE, szF]
      refine wpAnyH_take (i := 19) (v := ?_) rfl (by kernel_rfl) (by kernel_rfl) (by kernel_rfl) (fun _ _ _ h => h) (Or.inl ⟨by rfl, ?hy⟩) (by assumption) ?_
      case hy => intro w hSw; (try dsimp only at hSw); go_simp; try with_reducible rfl
      try simp only [Act.put, szA, szB, szC, szD, szE, szF]
      refine wpAnyH_take (i := 20) (v := ?_) rfl (by kernel_rfl) (by kernel_rfl) (by kernel_rfl) (fun _ _ _ h => h) (Or.inl ⟨by rfl, ?hy⟩) (by assumption) ?_
      case hy => intro w hSw; (try dsimp only at hSw); go_simp; try with_reducible rfl
      try simp only [Act.put, szA, szB, szC, szD, szE, szF]
      refine wpAnyH_ready (rs := [4, 21]) (by kernel_rfl) (by simp) (AllReadyH.cons rfl (fun K hK => ?_) (AllReadyH.cons rfl (fun K hK => ?_) AllReadyH.nil))
      · go_simp
        try (go_wp2_with fail)
        refine hK.out _ _ ?_ (fun hHeld => ?_)
        · exact hHeld
        clear hK K
        try simp only [Act.put, szA, szB, szC, szD, szE, szF]
        refine wpAnyH_ready (rs := [21]) (by kernel_rfl) (by simp) (AllReadyH.cons rfl (fun K hK => ?_) AllReadyH.nil)
        go_simp
        go_at_call 33
        refine HWF.out.mono ?_
        rintro e wf ⟨vw, rfl, hwf, hbf, how⟩
        have HBF := Lib.hid (show Below wr.heap.size wr wf from (Below.refl _ _).drew.trans hbf)
        have HWW := Lib.hid (show W3At wf wr.heap.size (c.R.secs * 100000) x.last vw x.notes x.Lb from hwf)
        have HOW := Lib.hid (show ∀ i, R3Own wr.heap.size vw i → wr.heap.size ≤ i from how)
        obtain ⟨g6, cap6, w6, hr6, ho6, hg6⟩ := run_appendW2 (HROW.out wf HBF.out) (by have h1 := HK.out.off.size; have h2 := HBF.out.size; omega) HJS.out HK.out.len ⟨x.key, wr.heap.size, vw, x.last, x.notes, x.Lb⟩ 74
        have HR6 := Lib.hid hr6
        have HO6 := Lib.hid ho6
        have HG6 := Lib.hid hg6
        have cF := (HBF.out.cell (p := ⟨F, 6, none⟩) HFL.out).trans CF.out
        have cA : (wf.alloc (.cells #[.string x.key, .pointer (some ⟨wr.heap.size, 0, none⟩)] 85)).cell? ⟨F, 6, none⟩ = some rv := (World.cell?_of_block (a := ⟨F, 6, none⟩) (Below.heap_alloc wf _ F (by have h1 := HFL.out; have h2 := HBF.out.size; omega))).trans cF
        have n6 : w6.heap[F]? = some (.cells #[.string c.R.res, .int .i64 c.R.idx, .int .i64 c.R.cnt, .int .i64 c.R.secs, c.iv, .pointer (some ⟨MB, 0, none⟩), rv, .pointer (some ⟨SB, 0, none⟩), .int .i64 s.last] 76) := (hg6.block F (by have h1 := HFL.out; have h2 := HBF.out.size; simp; omega) (fun e => by have h1 := (HK.out.row.lt F e.symm).1; have h2 := HF4.out; omega)).trans ((Below.heap_alloc wf _ F (by have h1 := HFL.out; have h2 := HBF.out.size; omega)).trans ((HBF.out.block F HFL.out).trans HH.out))
        have N6 := Lib.hid n6
        have c6 : w6.cell? ⟨F, 6, none⟩ = some rv := by simp only [World.cell?, n6]; rfl
        have f6 : w6.frozen? ⟨F, 6, none⟩ = false := frozen_of_row w6 F 6 _ _ n6
        clear hwf hbf how hr6 ho6 hg6 n6
        try (go_wp2_with fail)
        refine hK.out _ _ ?_ (fun hHeld => ?_)
        · exact HKP.out wf (fun i hi => HBF.out.block i (by have h2 := HK.out.off.size; omega))
        clear hK K
        try simp only [Act.put, szA, szB, szC, szD, szE, szF]
        refine wpAnyH_take (i := 22) (v := ?_) rfl (by kernel_rfl) (by kernel_rfl) (by kernel_rfl) (fun _ _ _ h => h) (Or.inl ⟨by rfl, ?hy⟩) (by assumption) ?_
        case hy => intro w hSw; (try dsimp only at hSw); go_simp; try with_reducible rfl
        try simp only [Act.put, szA, szB, szC, szD, szE, szF]
        refine wpAnyH_ready (rs := [23]) (by kernel_rfl) (by simp) (AllReadyH.cons rfl (fun K hK => ?_) AllReadyH.nil)
        go_simp
        try (go_wp2_with fail)
        refine hK.out _ _ ?_ (fun hHeld => ?_)
        · exact HKP.out _ (fun i hi => (Below.heap_alloc wf _ i (by have h1 := HBF.out.size; have h2 := HK.out.off.size; omega)).trans (HBF.out.block i (by have h2 := HK.out.off.size; omega)))
        clear hK K
        try simp only [Act.put, szA, szB, szC, szD, szE, szF]
        refine wpAnyH_ready (rs := [24]) (by kernel_rfl) (by simp) (AllReadyH.cons rfl (fun K hK => ?_) AllReadyH.nil)
        rw [if_pos (by rfl)]
        refine wp_append_runR _ (.tmp 40) (.tmp 59) 74 74 (by rfl) (by rfl) (by rfl) (by rfl) HR6.out ?_
        refine hK.out _ _ (HKP.out w6 (fun i hi => ?_)) (fun hHeld => ?_)
        · exact (HG6.out.block i (by have h1 := HBF.out.size; have h2 := HK.out.off.size; simp; omega) (fun e => by have := (HK.out.row.lt i e.symm).1; omega)).trans ((Below.heap_alloc wf _ i (by have h1 := HBF.out.size; have h2 := HK.out.off.size; omega)).trans (HBF.out.block i (by have h2 := HK.out.off.size; omega)))
        clear hK K
        try simp only [Act.put, szA, szB, szC, szD, szE, szF]
        refine wpAnyH_take (i := 25) (v := ?_) rfl (by kernel_rfl) (by kernel_rfl) (by kernel_rfl) (fun _ _ _ h => h) (Or.inl ⟨by rfl, ?hy⟩) (by assumption) ?_
        case hy => intro w hSw; (try dsimp only at hSw); go_simp; try with_reducible rfl
        try simp only [Act.put, szA, szB, szC, szD, szE, szF]
        refine wpAnyH_take (i := 26) (v := ?_) rfl (by kernel_rfl) (by kernel_rfl) (by kernel_rfl) (fun _ _ _ h => h) (Or.inl ⟨by rfl, ?hy⟩) (by assumption) ?_
        case hy => intro w hSw; (try dsimp only at hSw); go_simp; try with_reducible rfl
        try simp only [Act.put, szA, szB, szC, szD, szE, szF]
        refine wpAnyH_ready (rs := [27]) (by kernel_rfl) (by simp) (AllReadyH.cons rfl (fun K hK => ?_) AllReadyH.nil)
        go_simp
        skip
        try (go_wp2_with fail)
        refine hK.out _ _ (HKS.out w6 _ hHeld) (fun hHeld => ?_)
        clear hK K
        try simp only [Act.put, szA, szB, szC, szD, szE, szF]
        refine wpAnyH_done (by kernel_rfl) ?_ _
        refine NoPanic.normal ?_
        clear hHeld c6 f6 cF cA
        go_wp2_with (fail)
        exact ⟨⟨j + 1, hlt, by go_num, _, _, Lib.hid (HK.out.step HF4.out HX.out HBF.out HWW.out HOW.out HO6.out HG6.out), Lib.hid (by rw [heap_setCell_same w6 F 6 _ _ _ N6.out]; rfl)⟩, by first | (simp [intOf]; done) | (simp [intOf]; omega)⟩
      · go_simp
        go_at_call 33
        refine HWF.out.mono ?_
        rintro e wf ⟨vw, rfl, hwf, hbf, how⟩
        have HBF := Lib.hid (show Below wr.heap.size wr wf from (Below.refl _ _).drew.trans hbf)
        have HWW := Lib.hid (show W3At wf wr.heap.size (c.R.secs * 100000) x.last vw x.notes x.Lb from hwf)
        have HOW := Lib.hid (show ∀ i, R3Own wr.heap.size vw i → wr.heap.size ≤ i from how)
        obtain ⟨g6, cap6, w6, hr6, ho6, hg6⟩ := run_appendW2 (HROW.out wf HBF.out) (by have h1 := HK.out.off.size; have h2 := HBF.out.size; omega) HJS.out HK.out.len ⟨x.key, wr.heap.size, vw, x.last, x.notes, x.Lb⟩ 74
        have HR6 := Lib.hid hr6
        have HO6 := Lib.hid ho6
        have HG6 := Lib.hid hg6
        have cF := (HBF.out.cell (p := ⟨F, 6, none⟩) HFL.out).trans CF.out
        have cA : (wf.alloc (.cells #[.string x.key, .pointer (some ⟨wr.heap.size, 0, none⟩)] 85)).cell? ⟨F, 6, none⟩ = some rv := (World.cell?_of_block (a := ⟨F, 6, none⟩) (Below.heap_alloc wf _ F (by have h1 := HFL.out; have h2 := HBF.out.size; omega))).trans cF
        have n6 : w6.heap[F]? = some (.cells #[.string c.R.res, .int .i64 c.R.idx, .int .i64 c.R.cnt, .int .i64 c.R.secs, c.iv, .pointer (some ⟨MB, 0, none⟩), rv, .pointer (some ⟨SB, 0, none⟩), .int .i64 s.last] 76) := (hg6.block F (by have h1 := HFL.out; have h2 := HBF.out.size; simp; omega) (fun e => by have h1 := (HK.out.row.lt F e.symm).1; have h2 := HF4.out; omega)).trans ((Below.heap_alloc wf _ F (by have h1 := HFL.out; have h2 := HBF.out.size; omega)).trans ((HBF.out.block F HFL.out).trans HH.out))
        have N6 := Lib.hid n6
        have c6 : w6.cell? ⟨F, 6, none⟩ = some rv := by simp only [World.cell?, n6]; rfl
        have f6 : w6.frozen? ⟨F, 6, none⟩ = false := frozen_of_row w6 F 6 _ _ n6
        clear hwf hbf how hr6 ho6 hg6 n6
        try (go_wp2_with fail)
        refine hK.out _ _ ?_ (fun hHeld => ?_)
        · exact HKP.out wf (fun i hi => HBF.out.block i (by have h2 := HK.out.off.size; omega))
        clear hK K
        try simp only [Act.put, szA, szB, szC, szD, szE, szF]
        refine wpAnyH_take (i := 22) (v := ?_) rfl (by kernel_rfl) (by kernel_rfl) (by kernel_rfl) (fun _ _ _ h => h) (Or.inl ⟨by rfl, ?hy⟩) (by assumption) ?_
        case hy => intro w hSw; (try dsimp only at hSw); go_simp; try with_reducible rfl
        try simp only [Act.put, szA, szB, szC, szD, szE, szF]
        refine wpAnyH_ready (rs := [4, 23]) (by kernel_rfl) (by simp) (AllReadyH.cons rfl (fun K hK => ?_) (AllReadyH.cons rfl (fun K hK => ?_) AllReadyH.nil))
        · go_simp
          try (go_wp2_with fail)
          refine hK.out _ _ ?_ (fun hHeld => ?_)
          · exact hHeld
          clear hK K
          try simp only [Act.put, szA, szB, szC, szD, szE, szF]
          refine wpAnyH_ready (rs := [23]) (by kernel_rfl) (by simp) (AllReadyH.cons rfl (fun K hK => ?_) AllReadyH.nil)
          go_simp
          try (go_wp2_with fail)
          refine hK.out _ _ ?_ (fun hHeld => ?_)
          · exact HKP.out _ (fun i hi => (Below.heap_alloc wf _ i (by have h1 := HBF.out.size; have h2 := HK.out.off.size; omega)).trans (HBF.out.block i (by have h2 := HK.out.off.size; omega)))
          clear hK K
          try simp only [Act.put, szA, szB, szC, szD, szE, szF]
          refine wpAnyH_ready (rs := [24]) (by kernel_rfl) (by simp) (AllReadyH.cons rfl (fun K hK => ?_) AllReadyH.nil)
          rw [if_pos (by rfl)]
          refine wp_append_runR _ (.tmp 40) (.tmp 59) 74 74 (by rfl) (by rfl) (by rfl) (by rfl) HR6.out ?_
          refine hK.out _ _ (HKP.out w6 (fun i hi => ?_)) (fun hHeld => ?_)
          · exact (HG6.out.block i (by have h1 := HBF.out.size; have h2 := HK.out.off.size; simp; omega) (fun e => by have := (HK.out.row.lt i e.symm).1; omega)).trans ((Below.heap_alloc wf _ i (by have h1 := HBF.out.size; have h2 := HK.out.off.size; omega)).trans (HBF.out.block i (by have h2 := HK.out.off.size; omega)))
          clear hK K
          try simp only [Act.put, szA, szB, szC, szD, szE, szF]
          refine wpAnyH_take (i := 25) (v := ?_) rfl (by kernel_rfl) (by kernel_rfl) (by kernel_rfl) (fun _ _ _ h => h) (Or.inl ⟨by rfl, ?hy⟩) (by assumption) ?_
          case hy => intro w hSw; (try dsimp only at hSw); go_simp; try with_reducible rfl
          try simp only [Act.put, szA, szB, szC, szD, szE, szF]
          refine wpAnyH_take (i := 26) (v := ?_) rfl (by kernel_rfl) (by kernel_rfl) (by kernel_rfl) (fun _ _ _ h => h) (Or.inl ⟨by rfl, ?hy⟩) (by assumption) ?_
          case hy => intro w hSw; (try dsimp only at hSw); go_simp; try with_reducible rfl
          try simp only [Act.put, szA, szB, szC, szD, szE, szF]
          refine wpAnyH_ready (rs := [27]) (by kernel_rfl) (by simp) (AllReadyH.cons rfl (fun K hK => ?_) AllReadyH.nil)
          go_simp
          skip
          try (go_wp2_with fail)
          refine hK.out _ _ (HKS.out w6 _ hHeld) (fun hHeld => ?_)
          clear hK K
          try simp only [Act.put, szA, szB, szC, szD, szE, szF]
          refine wpAnyH_done (by kernel_rfl) ?_ _
          refine NoPanic.normal ?_
          clear hHeld c6 f6 cF cA
          go_wp2_with (fail)
          exact ⟨⟨j + 1, hlt, by go_num, _, _, Lib.hid (HK.out.step HF4.out HX.out HBF.out HWW.out HOW.out HO6.out HG6.out), Lib.hid (by rw [heap_setCell_same w6 F 6 _ _ _ N6.out]; rfl)⟩, by first | (simp [intOf]; done) | (simp [intOf]; omega)⟩
        · go_simp
          try (go_wp2_with fail)
          refine hK.out _ _ ?_ (fun hHeld => ?_)
          · exact HKP.out _ (fun i hi => (Below.heap_alloc wf _ i (by have h1 := HBF.out.size; have h2 := HK.out.off.size; omega)).trans (HBF.out.block i (by have h2 := HK.out.off.size; omega)))
          clear hK K
          try simp only [Act.put, szA, szB, szC, szD, szE, szF]
          refine wpAnyH_ready (rs := [4]) (by kernel_rfl) (by simp) (AllReadyH.cons rfl (fun K hK => ?_) AllReadyH.nil)
          go_simp
          try (go_wp2_with fail)
          refine hK.out _ _ ?_ (fun hHeld => ?_)
          · exact hHeld
          clear hK K
          try simp only [Act.put, szA, szB, szC, szD, szE, szF]
          refine wpAnyH_ready (rs := [24]) (by kernel_rfl) (by simp) (AllReadyH.cons rfl (fun K hK => ?_) AllReadyH.nil)
          rw [if_pos (by rfl)]
          refine wp_append_runR _ (.tmp 40) (.tmp 59) 74 74 (by rfl) (by rfl) (by rfl) (by rfl) HR6.out ?_
          refine hK.out _ _ (HKP.out w6 (fun i hi => ?_)) (fun hHeld => ?_)
          · exact (HG6.out.block i (by have h1 := HBF.out.size; have h2 := HK.out.off.size; simp; omega) (fun e => by have := (HK.out.row.lt i e.symm).1; omega)).trans ((Below.heap_alloc wf _ i (by have h1 := HBF.out.size; have h2 := HK.out.off.size; omega)).trans (HBF.out.block i (by have h2 := HK.out.off.size; omega)))
          clear hK K
          try simp only [Act.put, szA, szB, szC, szD, szE, szF]
          refine wpAnyH_take (i := 25) (v := ?_) rfl (by kernel_rfl) (by kernel_rfl) (by kernel_rfl) (fun _ _ _ h => h) (Or.inl ⟨by rfl, ?hy⟩) (by assumption) ?_
          case hy => intro w hSw; (try dsimp only at hSw); go_simp; try with_reducible rfl
          try simp only [Act.put, szA, szB, szC, szD, szE, szF]
          refine wpAnyH_take (i := 26) (v := ?_) rfl (by kernel_rfl) (by kernel_rfl) (by kernel_rfl) (fun _ _ _ h => h) (Or.inl ⟨by rfl, ?hy⟩) (by assumption) ?_
          case hy => intro w hSw; (try dsimp only at hSw); go_simp; try with_reducible rfl
          try simp only [Act.put, szA, szB, szC, szD, szE, szF]
          refine wpAnyH_ready (rs := [27]) (by kernel_rfl) (by simp) (AllReadyH.cons rfl (fun K hK => ?_) AllReadyH.nil)
          go_simp
          skip
          try (go_wp2_with fail)
          refine hK.out _ _ (HKS.out w6 _ hHeld) (fun hHeld => ?_)
          clear hK K
          try simp only [Act.put, szA, szB, szC, szD, szE, szF]
          refine wpAnyH_done (by kernel_rfl) ?_ _
          refine NoPanic.normal ?_
          clear hHeld c6 f6 cF cA
          go_wp2_with (fail)
          exact ⟨⟨j + 1, hlt, by go_num, _, _, Lib.hid (HK.out.step HF4.out HX.out HBF.out HWW.out HOW.out HO6.out HG6.out), Lib.hid (by rw [heap_setCell_same w6 F 6 _ _ _ N6.out]; rfl)⟩, by first | (simp [intOf]; done) | (simp [intOf]; omega)⟩
    · have k1 : ¬ (j : Int) < len := by omega
      obtain rfl : j = len := by omega
      clear hbr hz4r
      go_wp2_with (fail)
      go_ret
      refine ⟨⟨c.R, c.seed, F, MB, c.N, SB, c.iv⟩, rfl, ⟨mv2, s.A, rv, RS2, s.last, s.ls, s.sn, sv2⟩, ?_⟩
      have hK := HK.out
      rw [← HLEN.out] at hK
      exact fork15_made K.out HB4.out HM4.out (by have := HO1.out; rw [HMB.out] at this; rw [HMB.out]; exact this) HR4.out (by have := HO2.out; rw [HSB.out] at this; rw [HSB.out]; exact this) HFF.out HZ4.out HSZ.out.1 HSZ.out.2 hK HH.out
end Go.Proofs.YtemlafbkkaloiaaGreat
namespace Go.Proofs.YtemlafbkkaloiaaGreat
open Go.RowKit
set_option maxHeartbeats 3200000 in
theorem hKept_any {w : World} {c : HotC} {s : HotV} (k : HotAt w c s) :
    Calls Tryz.prog 12 #[.pointer (some ⟨c.hb, 0, none⟩)] w fun e w' => ∃ a cap, e = .returned (.slice a s.L.length cap) ∧ w'.ownsRow w.heap.size 9 1 (.slice a s.L.length cap) s.L.length (((pr s.L).map (·.1)).map Value.string) ∧ Below w.heap.size w w' := by
  obtain ⟨_, _, _, _, _, c5, _⟩ := k.cells
  have HK := Lib.hid (lkeys_any k.lru)
  clear k
  go_enter Tryz.func12, Tryz.ntmps12
  go_wp2_with (fail)
  refine HK.out.mono ?_
  rintro e w1 ⟨v, rfl, h1, h2⟩
  go_wp2_with (fail)
  go_ret
  obtain ⟨a, cap, rfl⟩ : ∃ a cap, v = .slice a s.L.length cap := by
    rcases h1.2 with ⟨rfl, h0⟩ | ⟨g, cap, cur, rfl, _⟩
    · exact ⟨none, 0, by rw [h0]⟩
    · exact ⟨_, cap, rfl⟩
  exact ⟨a, cap, rfl, h1, h2⟩
theorem usedH_new {w w' : World} {R : HotS} {keys seed : Int} {c : HotC} {s : HotV} (h : NewHot w R keys seed w' c s) (at_ : Int) (key : ByteArray) : usedH c s at_ key = 0 := by
  rw [usedH_V]
  have : s.V key = none := by unfold HotV.V findW; rw [h.WS]; rfl
  rw [this, h.sn]
  exact est_nil (by show 1 ≤ (4 : Int); omega) key
theorem live_first {w w' : World} {c : HotC} {s : HotV} (h : NewHot w liveHot 1 7 w' c s) : lookHE s.last 0 liveXH 2 = 0 ∧ lookHB c s 0 liveXH 2 = true := by
  have e1 : lookHE s.last 0 liveXH 2 = 0 := by rw [h.last]; decide
  refine ⟨e1, ?_⟩
  unfold lookHB
  rw [e1, usedH_new h]
  obtain ⟨a', c', hR⟩ := h.R
  rw [hR, live_limit]
  decide
theorem live_second {w w' w2 : World} {c : HotC} {s s2 : HotV} (h : NewHot w liveHot 1 7 w' c s) (t : TakePost w' c s 0 liveXH 2 w2 s2) : lookHE s2.last 1 liveXH 1 = 0 ∧ lookHB c s2 1 liveXH 1 = false ∧ s2.L.length = 1 := by
  obtain ⟨hE, hB⟩ := live_first h
  have hl := (t.last hB).1
  have e1 : lookHE s2.last 1 liveXH 1 = 0 := by rw [hl]; decide
  have hv := t.vals hB liveXH
  have hn : s.V liveXH = none := by unfold HotV.V findW; rw [h.WS]; rfl
  rw [if_pos rfl, hn, usedH_new h] at hv
  refine ⟨e1, ?_, ?_⟩
  · unfold lookHB
    rw [e1, usedH_V, hv]
    obtain ⟨a', c', hR⟩ := h.R
    rw [hR, live_limit]
    show (decide ((0 : Int) = 0) && decide ((winC ((1 : Int) * 100000) 10 1 [⟨0, passH 0⟩, ⟨0, passH 2⟩]).p ≤ 2 - 1)) = false
    rw [winC_p]
    decide
  · have hr := t.rows hB
    rw [h.L] at hr
    have : (pr s2.L).length = 1 := by
      rw [hr]
      have hN : (c.N : Int) = 1 := h.N
      have hN : c.N = 1 := by omega
      rw [hN]
      decide
    rw [pr_len] at this
    exact this
set_option maxHeartbeats 6400000 in
set_option maxRecDepth 100000 in
theorem htlive_any (w : World) : Calls Tryz.prog 7 #[] w fun e w' => e = .returned (.bool true) ∧ Below w.heap.size w w' := by
  have HNW : Hid (Calls Tryz.prog 5 #[.agg #[.string ⟨#[97]⟩, .int .i64 0, .int .i64 2, .int .i64 1, .slice none 0 0], .int .i64 1, .int .u64 7] w _) := hnew_any liveHot (liveHot_ok w) 1 7 (by omega) (by omega)
  go_enter Tryz.func7, Tryz.ntmps7
  go_wp2_with (fail)
  refine HNW.out.mono ?_
  rintro e w1 ⟨hb1, _, hy⟩
  obtain ⟨c, s, rfl, h1⟩ := hy liveHot_new
  have HT := htake_any h1.hot 0 liveXH (by decide) 2
  rw [(live_first h1).1, (live_first h1).2] at HT
  unfold liveXH at HT
  have HT := Lib.hid HT
  have H1 := Lib.hid h1
  have HB1 := Lib.hid hb1
  clear hy h1 hb1 HNW
  go_wp2_with (fail)
  refine HT.out.mono ?_
  rintro e w2 ⟨s2, rfl, t2⟩
  obtain ⟨f1, f2, f3⟩ := live_second H1.out t2
  have HT2 := htake_any t2.hot 1 liveXH (by decide) 1
  rw [f1, f2] at HT2
  unfold liveXH at HT2
  have HT2 := Lib.hid HT2
  have hz1 := HB1.out.size
  have HB2 := Lib.hid (HB1.out.trans (t2.off.below (B := w.heap.size) hz1 (fun i hi h => by have := H1.out.own i h; omega)))
  have HOW := Lib.hid (show ∀ i, HOwn c s2 i → w.heap.size ≤ i from fun i hi => by
    rcases t2.own i hi with h | h
    · exact H1.out.own i h
    · omega)
  have HL2 := Lib.hid f3
  have HNO := Lib.hid (And.intro f1 f2)
  clear HT f1 f2 f3 t2 hz1
  go_wp2_with (fail)
  refine HT2.out.mono ?_
  rintro e w3 ⟨s3, rfl, t3⟩
  have h3 := t3.no HNO.out.1 HNO.out.2
  have HB3 := Lib.hid (HB2.out.trans (t3.off.below (B := w.heap.size) HB2.out.size (fun i hi h => by have := HOW.out i h; omega)))
  have HOT3 := Lib.hid t3.hot
  have hl3 : s3.L.length = 1 := by rw [h3]; exact HL2.out
  have HL3 := Lib.hid hl3
  have HLM := hLimit_any t3.hot ⟨#[120]⟩
  obtain ⟨a', c', hR⟩ := H1.out.R
  rw [hR, live_limit] at HLM
  have HLM := Lib.hid HLM
  clear hR hl3 h3 t3 HT2 HB2 HOW HL2 HNO HB1 H1
  go_wp2_with (fail)
  refine HLM.out.mono ?_
  rintro e w4 ⟨rfl, hb4⟩
  have HOT4 := Lib.hid (HOT3.out.below hb4)
  have HB4 := Lib.hid (HB3.out.trans (hb4.mono HB3.out.size))
  have HKP := hKept_any HOT4.out
  rw [HL3.out] at HKP
  have HKP := Lib.hid HKP
  clear HLM hb4 HOT3 HB3
  go_wp2_with (fail)
  refine HKP.out.mono ?_
  rintro e w5 ⟨a, cap, rfl, _, hb5⟩
  have HB5 := Lib.hid (HB4.out.trans (hb5.mono HB4.out.size))
  clear hb5 HKP
  go_wp2_with (fail)
  go_ret
  exact ⟨by rfl, HB5.out⟩
end Go.Proofs.YtemlafbkkaloiaaGreat
namespace Go.Proofs.YtemlafbkkaloiaaGreat
open Go.RowKit
set_option maxHeartbeats 800000 in
theorem hUsed_nil (at_ : Int) (key : ByteArray) (w : World) : Calls Tryz.prog 16 #[.pointer none, .int .i64 at_, .string key] w fun e w' => e = .returned (.tuple #[.int .i64 0, .int .i64 1]) ∧ w' = w := by
  have HW := Lib.hid (hwrong_nil at_ key w)
  go_enter Tryz.func16, Tryz.ntmps16
  go_wp2_with (fail)
  refine HW.out.mono ?_
  rintro e wq ⟨rfl, hq⟩
  rw [hq]
  clear hq
  go_wp2_with (fail)
  go_ret2
  exact ⟨rfl, rfl⟩
set_option maxHeartbeats 800000 in
theorem hLook_nil (at_ : Int) (key : ByteArray) (n : Int) (w : World) : Calls Tryz.prog 17 #[.pointer none, .int .i64 at_, .string key, .int .i64 n] w fun e w' => e = .returned (.tuple #[.bool false, .int .i64 1]) ∧ w' = w := by
  have HW := Lib.hid (hwrong_nil at_ key w)
  go_enter Tryz.func17, Tryz.ntmps17
  go_wp2_with (fail)
  refine HW.out.mono ?_
  rintro e wq ⟨rfl, hq⟩
  rw [hq]
  clear hq
  go_wp2_with (fail)
  go_ret2
  exact ⟨rfl, rfl⟩
set_option maxHeartbeats 800000 in
theorem hTake_nil (at_ : Int) (key : ByteArray) (n : Int) (w : World) : Calls Tryz.prog 18 #[.pointer none, .int .i64 at_, .string key, .int .i64 n] w fun e w' => e = .returned (.tuple #[.bool false, .int .i64 1]) ∧ w' = w := by
  have HW := Lib.hid (hLook_nil at_ key n w)
  go_enter Tryz.func18, Tryz.ntmps18
  go_wp2_with (fail)
  refine HW.out.mono ?_
  rintro e wq ⟨rfl, hq⟩
  rw [hq]
  clear hq
  go_wp2_with (fail)
  go_ret2
  exact ⟨rfl, rfl⟩
set_option maxHeartbeats 800000 in
theorem hLimit_nil (key : ByteArray) (w : World) : Calls Tryz.prog 14 #[.pointer none, .string key] w fun e w' => e = .returned (.int .i64 0) ∧ w' = w := by
  go_enter Tryz.func14, Tryz.ntmps14
  go_wp2_with (fail)
  go_ret
  exact ⟨rfl, rfl⟩
set_option maxHeartbeats 800000 in
theorem hKept_nil (w : World) : Calls Tryz.prog 12 #[.pointer none] w fun e w' => e = .returned (.slice none 0 0) ∧ w' = w := by
  go_enter Tryz.func12, Tryz.ntmps12
  go_wp2_with (fail)
  go_ret
  exact ⟨rfl, rfl⟩
set_option maxHeartbeats 800000 in
theorem hFork_nil (w : World) : Calls Tryz.prog 8 #[.pointer none] w fun e w' => e = .returned (.pointer none) ∧ w' = w := by
  go_enter Tryz.func8, Tryz.ntmps8
  go_wp2_with (fail)
  go_ret
  exact ⟨rfl, rfl⟩
set_option maxHeartbeats 800000 in
theorem r15look_nil (at_ : Int) (key : ByteArray) (n : Int) (w : World) : Calls Tryz.prog 65 #[.pointer none, .int .i64 at_, .string key, .int .i64 n] w fun e w' => e = .returned (.int .i64 1) ∧ w' = w := by
  go_enter Tryz.func65, Tryz.ntmps65
  go_wp2_with (fail)
  go_ret
  exact ⟨rfl, rfl⟩
set_option maxHeartbeats 800000 in
theorem r15Look_nil (at_ : Int) (key : ByteArray) (n : Int) (w : World) : Calls Tryz.prog 35 #[.pointer none, .int .i64 at_, .string key, .int .i64 n] w fun e w' => e = .returned (.tuple #[.bool false, .int .i64 1]) ∧ w' = w := by
  have HW := Lib.hid (r15look_nil at_ key n w)
  go_enter Tryz.func35, Tryz.ntmps35
  go_wp2_with (fail)
  refine HW.out.mono ?_
  rintro e wq ⟨rfl, hq⟩
  rw [hq]
  clear hq
  go_wp2_with (fail)
  go_ret2
  exact ⟨rfl, rfl⟩
set_option maxHeartbeats 800000 in
theorem r15Take_nil (at_ : Int) (key : ByteArray) (n : Int) (w : World) : Calls Tryz.prog 19 #[.pointer none, .int .i64 at_, .string key, .int .i64 n] w fun e w' => e = .returned (.tuple #[.bool false, .int .i64 1]) ∧ w' = w := by
  have HW := Lib.hid (r15Look_nil at_ key n w)
  go_enter Tryz.func19, Tryz.ntmps19
  go_wp2_with (fail)
  refine HW.out.mono ?_
  rintro e wq ⟨rfl, hq⟩
  rw [hq]
  clear hq
  go_wp2_with (fail)
  go_ret2
  exact ⟨rfl, rfl⟩
set_option maxHeartbeats 800000 in
theorem r15Limit_nil (key : ByteArray) (w : World) : Calls Tryz.prog 15 #[.pointer none, .string key] w fun e w' => e = .returned (.int .i64 0) ∧ w' = w := by
  go_enter Tryz.func15, Tryz.ntmps15
  go_wp2_with (fail)
  go_ret
  exact ⟨rfl, rfl⟩
set_option maxHeartbeats 800000 in
theorem r15Kept_nil (w : World) : Calls Tryz.prog 13 #[.pointer none] w fun e w' => e = .returned (.slice none 0 0) ∧ w' = w := by
  go_enter Tryz.func13, Tryz.ntmps13
  go_wp2_with (fail)
  go_ret
  exact ⟨rfl, rfl⟩
set_option maxHeartbeats 1600000 in
theorem same15_any {w : World} (a b : Option Addr) (n ca cb : Nat) (ss : List ByteArray) (hl : ss.length = n) (hm : n ≤ 140737488351232) (ha : StrsAt w a ss) (hb : StrsAt w b ss) :
    Calls Tryz.prog 11 #[.slice a n ca, .slice b n cb] w fun e w' => e = .returned (.bool true) ∧ Below w.heap.size w w' := by
  have HA := Lib.hid ha
  have HB := Lib.hid hb
  have HN := Lib.hid hl
  clear ha hb hl
  go_enter Tryz.func11, Tryz.ntmps11
  go_wp2_with (fail)
  go_loopw [5] (fun i wr => ∃ k : Nat, k ≤ n ∧ i = .int .i64 k ∧ Below w.heap.size w wr) (fun i _ => n - (intOf i).toNat)
  case atStart => exact ⟨0, Nat.zero_le _, rfl, Below.refl _ _⟩
  case round =>
    obtain ⟨k, hk, rfl, hbl⟩ := hrel
    by_cases hlt : k < n
    · rcases HA.out with h | ⟨g, off, rfl, hg, hc⟩
      · exfalso; have := HN.out; subst h; simp at this; omega
      · rcases HB.out with h | ⟨g', off', rfl, hg', hc'⟩
        · exfalso; have := HN.out; subst h; simp at this; omega
        · have d1 := (hbl.cell (p := ⟨g, off + k, none⟩) hg).trans (hc k (by rw [HN.out]; exact hlt))
          have d2 := (hbl.cell (p := ⟨g', off' + k, none⟩) hg').trans (hc' k (by rw [HN.out]; exact hlt))
          generalize ss.getD k ⟨#[]⟩ = s at d1 d2
          have k0 : (0 : Int) ≤ k := by omega
          have k1 : (k : Int) < n := by omega
          clear hc hc'
          go_wp2_with (fail)
          go_quiet (fail)
          go_wp2_with (fail)
          exact ⟨⟨k + 1, by omega, by go_num, below_drewFK hbl _⟩, by first | (simp [intOf]; done) | (simp [intOf]; omega)⟩
    · go_wp2_with (fail)
      go_ret
      exact ⟨rfl, hbl⟩
end Go.Proofs.YtemlafbkkaloiaaGreat
