/- guard's references: names and lists. -/
import Derived.Test.YtnobfmlfhaaghaaGuF
namespace Go.Proofs.Ytnobfmlfhaaghaa
open Go.RowKit
set_option linter.unusedVariables false
set_option linter.unusedSimpArgs false

theorem toList_decG (a b : ByteArray) : (a.toList == b.toList) = decide (a = b) := by
  by_cases h : a = b
  · simp [h]
  · have : a.toList ≠ b.toList := fun e => h (by
      rw [ByteArray.toList_eq, ByteArray.toList_eq] at e
      rcases a with ⟨⟨l⟩⟩; rcases b with ⟨⟨l'⟩⟩; simpa using e)
    simp [h, this]
theorem nameB_no {s : ByteArray} (h : ¬ ((1 : Int) ≤ s.size ∧ (s.size : Int) ≤ 64)) : nameB s = false := by
  unfold nameB
  have : (decide ((1 : Int) ≤ (s.size : Int)) && decide ((s.size : Int) ≤ 64)) = false := by
    rw [Bool.and_eq_false_iff, decide_eq_false_iff_not, decide_eq_false_iff_not]; omega
  rw [this, Bool.and_false]
theorem nameB_byte {s : ByteArray} {k : Nat} (hk : k < s.size) (h : byteB s[k] = false) : nameB s = false := by
  unfold nameB
  have : s.data.toList.all byteB = false := by
    rw [List.all_eq_false]
    exact ⟨s[k], by
      have : s[k] = s.data.toList[k]'(by simpa using hk) := rfl
      rw [this]; exact List.getElem_mem _, by rw [h]; simp⟩
  rw [this, Bool.false_and]
theorem take_all {s : ByteArray} {k : Nat} (hk : k < s.size) (h : (s.data.toList.take k).all byteB = true) (hb : byteB s[k] = true) : (s.data.toList.take (k + 1)).all byteB = true := by
  have hl : k < s.data.toList.length := by simpa using hk
  rw [List.take_succ_eq_append_getElem hl, List.all_append, h]
  simp only [List.all_cons, List.all_nil, Bool.and_true, Bool.true_and]
  exact hb

set_option maxHeartbeats 1600000 in
theorem riname_any (s : ByteArray) (hs : s.size ≤ maxLen) (w : World) : Calls Try.prog 62 #[.string s] w fun e w' => e = .returned (.bool (nameB s)) ∧ w' = w := by
  have hsz : (s.size : Int) ≤ 9223372036854775807 := by simp only [maxLen] at hs; omega
  by_cases h1 : (s.size : Int) < 1
  · rw [nameB_no (by omega)]
    go_enter Try.func62, Try.ntmps62
    go_wp2_with (fail)
    go_ret
    exact ⟨rfl, rfl⟩
  · by_cases h2 : (64 : Int) < s.size
    · rw [nameB_no (by omega)]
      go_enter Try.func62, Try.ntmps62
      go_wp2_with (fail)
      go_ret
      exact ⟨rfl, rfl⟩
    · have HNO := Lib.hid (fun k (hk : k < s.size) h => nameB_byte hk h)
      have HYES := Lib.hid (show s.data.toList.all byteB = true → nameB s = true from fun h => by
        unfold nameB
        rw [h, decide_eq_true (show (1 : Int) ≤ s.size by omega), decide_eq_true (show (s.size : Int) ≤ 64 by omega)]; rfl)
      go_enter Try.func62, Try.ntmps62
      go_wp2_with (fail)
      go_loop [3] (fun i => ∃ k : Nat, k ≤ s.size ∧ i = .int .i64 k ∧ Hid ((s.data.toList.take k).all byteB = true)) (fun i => s.size - (intOf i).toNat)
      case atStart => exact ⟨0, Nat.zero_le _, rfl, rfl⟩
      case round =>
        obtain ⟨k, hk, rfl, HA⟩ := hrel
        by_cases hlt : k < s.size
        · have k0 : (0 : Int) ≤ k := by omega
          have k1 : (k : Int) < s.size := by omega
          have HN := Lib.hid (HNO.out k hlt)
          have HT := Lib.hid (take_all hlt HA.out)
          have hbd : byteB s[k] = (decide ((33 : Int) ≤ (s[k].toNat : Int)) && decide ((s[k].toNat : Int) ≤ 126)) := rfl
          by_cases hc1 : (s[k].toNat : Int) < 33
          · have hno := Lib.hid (HN.out (by rw [hbd, decide_eq_false (by omega), Bool.false_and]))
            clear hbd HN HT HA
            go_wp2_with (fail)
            go_ret
            exact ⟨by rw [hno.out]; rfl, rfl⟩
          · by_cases hc2 : (126 : Int) < s[k].toNat
            · have hno := Lib.hid (HN.out (by rw [hbd, decide_eq_false (show ¬ (s[k].toNat : Int) ≤ 126 by omega), Bool.and_false]))
              clear hbd HN HT HA
              go_wp2_with (fail)
              go_ret
              exact ⟨by rw [hno.out]; rfl, rfl⟩
            · have hy := Lib.hid (HT.out (by rw [hbd, decide_eq_true (show (33 : Int) ≤ (s[k].toNat : Int) by omega), decide_eq_true (show (s[k].toNat : Int) ≤ 126 by omega)]; rfl))
              clear hbd HN HT HA
              go_wp2_with (fail)
              exact ⟨⟨k + 1, by omega, by go_num, hy⟩, by first | (simp [intOf]; done) | (simp [intOf]; omega)⟩
        · have k1 : ¬ (k : Int) < s.size := by omega
          have hall := Lib.hid (HYES.out (by
            have := HA.out
            rwa [List.take_of_length_le (by simp; omega)] at this))
          clear HA
          go_wp2_with (fail)
          go_ret
          exact ⟨by rw [hall.out]; rfl, rfl⟩

set_option maxHeartbeats 400000 in
theorem rin_any (n lo hi : Int) (w : World) : Calls Try.prog 63 #[.int .i64 n, .int .i64 lo, .int .i64 hi] w fun e w' => e = .returned (.bool (decide (lo ≤ n) && decide (n ≤ hi))) ∧ w' = w := by
  by_cases h : lo ≤ n
  · go_enter Try.func63, Try.ntmps63
    go_wp2_with (fail)
    go_ret
    exact ⟨by simp [h], rfl⟩
  · go_enter Try.func63, Try.ntmps63
    go_wp2_with (fail)
    go_ret
    exact ⟨by rw [show (decide (lo ≤ n)) = false by simpa using h]; rfl, rfl⟩

theorem contains_snoc {ss : List ByteArray} {k : Nat} (hk : k < ss.length) {x : ByteArray} (h : Lib.containsS (ss.take k) x = false) : Lib.containsS (ss.take (k + 1)) x = decide (ss.getD k ⟨#[]⟩ = x) := by
  have hg : ss.getD k ⟨#[]⟩ = ss[k] := by rw [List.getD_eq_getElem?_getD, List.getElem?_eq_getElem hk]; rfl
  rw [hg]
  have hno : ¬ x ∈ ss.take k := fun e => by rw [(Lib.containsS_iff _ _).2 e] at h; cases h
  by_cases e : ss[k] = x
  · rw [decide_eq_true e, Lib.containsS_iff, List.take_succ_eq_append_getElem hk]
    simp [e]
  · rw [decide_eq_false e]
    cases hc : Lib.containsS (ss.take (k + 1)) x
    · rfl
    · rw [Lib.containsS_iff, List.take_succ_eq_append_getElem hk, List.mem_append] at hc
      rcases hc with hc | hc
      · exact absurd hc hno
      · exact absurd (List.mem_singleton.1 hc).symm e
theorem contains_more {ss : List ByteArray} {k i : Nat} (hki : k ≤ i) {x : ByteArray} (h : Lib.containsS (ss.take k) x = true) : Lib.containsS (ss.take i) x = true := by
  rw [Lib.containsS_iff] at h ⊢
  exact List.mem_of_mem_take (show x ∈ (ss.take i).take k by rw [List.take_take, Nat.min_eq_left hki]; exact h)
theorem containsS_nil (x : ByteArray) : Lib.containsS ([] : List ByteArray) x = false := by
  cases hc : Lib.containsS ([] : List ByteArray) x
  · rfl
  · rw [Lib.containsS_iff] at hc; simp at hc
theorem listE_name {res : ByteArray} {ss : List ByteArray} (h : namedB res ss = false) : listE res ss = 10 := by unfold listE lookE; rw [h]; rfl
theorem listE_form {res : ByteArray} {ss : List ByteArray} (h : namedB res ss = true) (h2 : l1B ss = false) : listE res ss = 34 := by unfold listE lookE; rw [h, h2]; rfl
theorem listE_ok {res : ByteArray} {ss : List ByteArray} (h : namedB res ss = true) (h2 : l1B ss = true) : listE res ss = 0 := by unfold listE lookE; rw [h, h2]; rfl

set_option maxHeartbeats 3200000 in
theorem r7list_any {w : World} (res : ByteArray) (white : Bool) (hr : res.size ≤ maxLen) (a : Option Addr) (len cap : Nat) (ss : List ByteArray) (hl : ss.length = len) (hm : len ≤ 9223372036854775807) (hs : TextsAt w a ss) (hsz : ∀ s, s ∈ ss → s.size ≤ maxLen) :
    Calls Try.prog 33 #[.agg #[.string res, .bool white, .slice a len cap]] w fun e w' => e = .returned (.int .i64 (listE res ss)) ∧ Below w.heap.size w w' := by
  have hb : Below w.heap.size w (w.alloc (.cells #[.string res, .bool white, .slice a len cap] 37)) := (Below.refl _ _).alloc (Nat.le_refl _) _
  have hz : (w.alloc (.cells #[.string res, .bool white, .slice a len cap] 37)).heap[w.heap.size]? = some (.cells #[.string res, .bool white, .slice a len cap] 37) := by rw [get_allocG, if_pos rfl]
  have hsz1 : (w.alloc (.cells #[.string res, .bool white, .slice a len cap] 37)).heap.size = w.heap.size + 1 := by simp
  have HB := Lib.hid hb
  have HTX := Lib.hid (hs.below hb)
  have HL := Lib.hid hl
  have HSZ := Lib.hid hsz
  have HRN := Lib.hid (fun wx => riname_any res hr wx)
  have HNA := Lib.hid (show nameB res = false → namedB res ss = false from fun h => by unfold namedB; rw [h]; rfl)
  have HNB := Lib.hid (show ∀ s, s ∈ ss → nameB s = false → namedB res ss = false from fun s hs h => by
    unfold namedB
    rw [show ss.any (fun s => !nameB s) = true from List.any_eq_true.2 ⟨s, hs, by rw [h]; rfl⟩]; simp)
  have HNC := Lib.hid (show nameB res = true → (∀ s, s ∈ ss → nameB s = true) → namedB res ss = true from fun h h2 => by
    unfold namedB
    rw [h, show ss.any (fun s => !nameB s) = false from List.any_eq_false.2 (fun s hs => by rw [h2 s hs]; simp)]; rfl)
  have HLB := Lib.hid (show l1B ss = ((decide (1 ≤ (ss.length : Int)) && decide ((ss.length : Int) ≤ 32)) && !twiceB ss) from rfl)
  clear hs hl hsz hb
  go_enter Try.func33, Try.ntmps33
  go_wp2_with (fail)
  refine (HRN.out _).mono ?_
  rintro e wq ⟨rfl, hq⟩
  subst hq
  obtain ⟨B, hBe⟩ : ∃ B, w.heap.size = B := ⟨_, rfl⟩
  rw [hBe] at hz hsz1
  simp only [hBe]
  generalize w.alloc (.cells #[.string res, .bool white, .slice a len cap] 37) = W at *
  have c2 : W.cell? ⟨B, 2, none⟩ = some (.slice a len cap) := by simp only [World.cell?, hz]; rfl
  have hBl : B < W.heap.size := by omega
  clear hz hsz1 hBe
  cases hnr : nameB res with
  | false =>
    have HE := Lib.hid (listE_name (HNA.out hnr))
    clear hnr
    go_wp2_with (fail)
    go_ret
    exact ⟨by rw [HE.out]; rfl, HB.out⟩
  | true =>
    have HNR := Lib.hid hnr
    clear hnr
    go_wp2_with (fail)
    go_loopw [3] (fun i wr => ∃ k : Nat, k ≤ len ∧ i = .int .i64 k ∧ Hid (∀ s, s ∈ ss.take k → nameB s = true) ∧ Hid (Below W.heap.size W wr)) (fun i _ => len - (intOf i).toNat)
    case atStart => exact ⟨0, Nat.zero_le _, rfl, Lib.hid (by simp), Lib.hid (Below.refl _ _)⟩
    case round =>
      rename World => wy
      obtain ⟨k, hk, rfl, HA, HY⟩ := hrel
      have c2 := (HY.out.cell (p := ⟨B, 2, none⟩) hBl).trans c2
      by_cases hlt : k < len
      · have hkl : k < ss.length := by rw [HL.out]; exact hlt
        rcases HTX.out with h | ⟨b, off, rfl, hbl, hcell⟩
        · exfalso; rw [h] at hkl; simp at hkl
        have k0 : (0 : Int) ≤ k := by omega
        have k1 : (k : Int) < len := by omega
        have d1 := (HY.out.cell (p := ⟨b, off + k, none⟩) hbl).trans (hcell k hkl)
        have hg : ss.getD k ⟨#[]⟩ = ss[k] := by rw [List.getD_eq_getElem?_getD, List.getElem?_eq_getElem hkl]; rfl
        rw [hg] at d1
        have hmem : ss[k] ∈ ss := List.getElem_mem hkl
        have HIN := Lib.hid (fun wx => riname_any ss[k] (HSZ.out _ hmem) wx)
        have HBAD := Lib.hid (HNB.out _ hmem)
        have HTK := Lib.hid (show ss.take (k + 1) = ss.take k ++ [ss[k]] from List.take_succ_eq_append_getElem hkl)
        clear hcell hg hmem
        generalize ss[k] = s at *
        go_wp2_with (fail)
        refine (HIN.out _).mono ?_
        rintro e wq ⟨rfl, hq⟩
        subst hq
        cases hns : nameB s with
        | false =>
          have HE := Lib.hid (listE_name (HBAD.out hns))
          clear hns
          go_wp2_with (fail)
          go_ret
          exact ⟨by rw [HE.out]; rfl, HB.out.trans (HY.out.mono HB.out.size)⟩
        | true =>
          have HA2 : Hid (∀ s, s ∈ ss.take (k + 1) → nameB s = true) := Lib.hid (fun z hz => by
            rw [HTK.out, List.mem_append] at hz
            rcases hz with hz | hz
            · exact HA.out z hz
            · obtain rfl := List.mem_singleton.1 hz
              exact hns)
          clear hns
          go_wp2_with (fail)
          exact ⟨⟨k + 1, by omega, by go_num, HA2, HY⟩, by first | (simp [intOf]; done) | (simp [intOf]; omega)⟩
      · have k1 : ¬ (k : Int) < len := by omega
        have HNM := Lib.hid (HNC.out HNR.out (by
          have := HA.out
          rwa [List.take_of_length_le (by rw [HL.out]; omega)] at this))
        clear HA
        go_wp2_with (fail)
        refine (rin_any _ _ _ _).mono ?_
        rintro e wq ⟨rfl, hq⟩
        subst hq
        have hLB := HLB.out
        rw [HL.out] at hLB
        cases hin : (decide ((1 : Int) ≤ (len : Int)) && decide ((len : Int) ≤ 32)) with
        | false =>
          have HE := Lib.hid (listE_form HNM.out (by rw [hLB, hin]; rfl))
          clear hin hLB
          go_wp2_with (fail)
          go_ret
          exact ⟨by rw [HE.out]; rfl, HB.out.trans (HY.out.mono HB.out.size)⟩
        | true =>
          rw [hin, Bool.true_and] at hLB
          have HLC := Lib.hid hLB
          clear hin hLB
          go_wp2_with (fail)
          go_loopw [4, 5] (fun i _ wr => ∃ k : Nat, k ≤ len ∧ i = .int .i64 k ∧ Hid ((List.range k).any (twiceAt ss) = false) ∧ Hid (Below W.heap.size W wr)) (fun i _ _ => len - (intOf i).toNat)
          case atStart => exact ⟨0, Nat.zero_le _, rfl, Lib.hid rfl, HY⟩
          case round =>
            rename World => wv
            obtain ⟨i, hi, rfl, HA, HV⟩ := hrel
            have c2 := (HV.out.cell (p := ⟨B, 2, none⟩) hBl).trans (by assumption)
            by_cases hlt2 : i < len
            · have hil : i < ss.length := by rw [HL.out]; exact hlt2
              rcases HTX.out with h | ⟨b, off, rfl, hbl, hcell⟩
              · exfalso; rw [h] at hil; simp at hil
              have i0 : (0 : Int) ≤ i := by omega
              have i1 : (i : Int) < len := by omega
              have HDI := Lib.hid (hcell i hil)
              have HCE := Lib.hid hcell
              have HST := Lib.hid (range_step HA.out)
              have HTY := Lib.hid (twice_yes (ss := ss) hil)
              have HTD := Lib.hid (show twiceAt ss i = Lib.containsS (ss.take i) (ss.getD i ⟨#[]⟩) from rfl)
              clear hcell
              generalize ss.getD i ⟨#[]⟩ = X at *
              go_wp2_with (fail)
              go_loopw [5] (fun q wr => ∃ k : Nat, k ≤ i ∧ q = .int .i64 k ∧ Hid (Lib.containsS (ss.take k) X = false) ∧ Hid (Below W.heap.size W wr)) (fun q _ => i - (intOf q).toNat)
              case atStart => exact ⟨0, Nat.zero_le _, rfl, Lib.hid (containsS_nil X), HV⟩
              case round =>
                rename World => wu
                obtain ⟨q, hq, rfl, HQ, HU⟩ := hrel
                have c2 : wu.cell? ⟨B, 2, none⟩ = some (.slice (some ⟨b, off, none⟩) len cap) := (HU.out.cell (p := ⟨B, 2, none⟩) hBl).trans (by assumption)
                have dX := (HU.out.cell (p := ⟨b, off + i, none⟩) hbl).trans HDI.out
                by_cases hlt3 : q < i
                · have hql : q < ss.length := by omega
                  have q0 : (0 : Int) ≤ q := by omega
                  have q1 : (q : Int) < len := by omega
                  have q2 : (q : Int) < i := by omega
                  have dq := (HU.out.cell (p := ⟨b, off + q, none⟩) hbl).trans (HCE.out q hql)
                  have hsn := contains_snoc hql HQ.out
                  rw [← toList_decG] at hsn
                  generalize ss.getD q ⟨#[]⟩ = Y at *
                  cases he : (Y.toList == X.toList) with
                  | true =>
                    rw [he] at hsn
                    have HE := Lib.hid (listE_form HNM.out (by rw [HLC.out, HTY.out (by rw [HTD.out]; exact contains_more (by omega) hsn)]; rfl))
                    clear hsn
                    go_wp2_with (fail)
                    go_quiet (fail)
                    go_wp2_with (fail)
                    go_ret
                    exact ⟨by rw [HE.out]; rfl, HB.out.trans ((below_drewG HU.out _).mono HB.out.size)⟩
                  | false =>
                    rw [he] at hsn
                    have HS := Lib.hid hsn
                    clear hsn
                    go_wp2_with (fail)
                    go_quiet (fail)
                    go_wp2_with (fail)
                    exact ⟨⟨q + 1, by omega, by go_num, HS, Lib.hid (below_drewG HU.out _)⟩, by first | (simp [intOf]; done) | (simp [intOf]; omega)⟩
                · have q2 : ¬ (q : Int) < i := by omega
                  have e1 : q = i := by omega
                  have HS : Hid ((List.range (i + 1)).any (twiceAt ss) = false) := Lib.hid (by
                    rw [HST.out, HTD.out, ← e1]; exact HQ.out)
                  clear e1
                  go_wp2_with (fail)
                  exact ⟨⟨i + 1, by omega, by go_num, HS, HU⟩, by first | (simp [intOf]; done) | (simp [intOf]; omega)⟩
            · have i1 : ¬ (i : Int) < len := by omega
              have HE := Lib.hid (listE_ok HNM.out (by
                rw [HLC.out]
                have h1 := HA.out
                rw [show i = ss.length by rw [HL.out]; omega] at h1
                rw [show twiceB ss = false from h1]; rfl))
              clear HA
              go_wp2_with (fail)
              go_ret
              exact ⟨by rw [HE.out]; rfl, HB.out.trans (HV.out.mono HB.out.size)⟩
end Go.Proofs.Ytnobfmlfhaaghaa
