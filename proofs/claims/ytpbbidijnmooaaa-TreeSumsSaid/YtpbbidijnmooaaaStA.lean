/- stat: a node in memory; what looks at it. -/
import Derived.Test.YtpbbidijnmooaaaWinI
import Derived.Test.YtpbbidijnmooaaaInts
namespace Go.Proofs.Ytpbbidijnmooaaa
open Go.RowKit
set_option linter.unusedVariables false
set_option linter.unusedSimpArgs false

/-- A node's blocks: its own, its two windows', their maps'. -/
structure NBk where
  q : Nat
  s1 : Nat
  m1 : Nat
  s2 : Nat
  m2 : Nat
def NBk.l (k : NBk) : List Nat := [k.q, k.s1, k.m1, k.s2, k.m2]
def NOwn (k : NBk) (i : Nat) : Prop := i ∈ k.l
structure NodeAt (w : World) (k : NBk) (last flight : Int) (notes : List NoteW) : Prop where
  head : w.heap[k.q]? = some (.cells #[.pointer (some ⟨k.s1, 0, none⟩), .pointer (some ⟨k.s2, 0, none⟩), .int .i64 flight] 70)
  sec : WinN w k.s1 k.m1 1000000 10 last notes
  pair : WinN w k.s2 k.m2 2000000 2 last notes
  apart : k.l.Nodup
  f0 : 0 ≤ flight
  f1 : flight ≤ 4096
theorem NodeAt.lt {w : World} {k : NBk} {last flight : Int} {notes : List NoteW} (h : NodeAt w k last flight notes) {i : Nat} (hi : NOwn k i) : i < w.heap.size := by
  have h1 := (Array.getElem?_eq_some_iff.1 h.head).1
  have h2 := h.sec.lt
  have h3 := h.pair.lt
  simp only [NOwn, NBk.l, List.mem_cons, List.mem_nil_iff, or_false] at hi
  rcases hi with rfl | rfl | rfl | rfl | rfl <;> omega
theorem nown (k : NBk) : NOwn k k.q ∧ NOwn k k.s1 ∧ NOwn k k.m1 ∧ NOwn k k.s2 ∧ NOwn k k.m2 := by simp [NOwn, NBk.l]
theorem NodeAt.kept {w w' : World} {k : NBk} {last flight : Int} {notes : List NoteW} (h : NodeAt w k last flight notes) (hk : ∀ i, NOwn k i → w'.heap[i]? = w.heap[i]?) : NodeAt w' k last flight notes := by
  obtain ⟨a, b, c, d, e⟩ := nown k
  exact ⟨(hk _ a).trans h.head, h.sec.kept (hk _ b) (hk _ c), h.pair.kept (hk _ d) (hk _ e), h.apart, h.f0, h.f1⟩
theorem NodeAt.below {w w' : World} {k : NBk} {last flight : Int} {notes : List NoteW} (h : NodeAt w k last flight notes) (hb : Below w.heap.size w w') : NodeAt w' k last flight notes := h.kept (fun i hi => hb.block i (h.lt hi))
theorem NodeAt.cells {w : World} {k : NBk} {last flight : Int} {notes : List NoteW} (h : NodeAt w k last flight notes) : w.cell? ⟨k.q, 0, none⟩ = some (.pointer (some ⟨k.s1, 0, none⟩)) ∧ w.cell? ⟨k.q, 1, none⟩ = some (.pointer (some ⟨k.s2, 0, none⟩)) ∧ w.cell? ⟨k.q, 2, none⟩ = some (.int .i64 flight) := by
  simp only [World.cell?, h.head]
  exact ⟨rfl, rfl, rfl⟩
theorem NodeAt.parts {w : World} {k : NBk} {last flight : Int} {notes : List NoteW} (h : NodeAt w k last flight notes) : k.q ≠ k.s1 ∧ k.q ≠ k.m1 ∧ k.q ≠ k.s2 ∧ k.q ≠ k.m2 ∧ k.s1 ≠ k.m1 ∧ k.s1 ≠ k.s2 ∧ k.s1 ≠ k.m2 ∧ k.m1 ≠ k.s2 ∧ k.m1 ≠ k.m2 ∧ k.s2 ≠ k.m2 := by
  have := h.apart
  simp only [NBk.l, List.nodup_cons, List.mem_cons, List.mem_nil_iff, or_false, not_or, List.not_mem_nil, not_false_eq_true, List.nodup_nil, and_true] at this
  obtain ⟨⟨a, b, c, d⟩, ⟨e, f, g⟩, ⟨x, y⟩, z⟩ := this
  exact ⟨a, b, c, d, e, f, g, x, y, z⟩

theorem shape10 : ShapeW 1000000 10 := ⟨by omega, by omega, by omega, by omega, by omega⟩
theorem shape2 : ShapeW 2000000 2 := ⟨by omega, by omega, by omega, by omega, by omega⟩
def nodeObj (s1 s2 : Nat) : Obj := .cells #[.pointer (some ⟨s1, 0, none⟩), .pointer (some ⟨s2, 0, none⟩), .int .i64 0] 70
def madeN (N : Nat) : NBk := ⟨N + 4, N + 1, N, N + 3, N + 2⟩
def nodeW (w : World) : World := ((((w.alloc (.map #[] 0)).alloc (winObj 1000000 10 w.heap.size)).alloc (.map #[] 0)).alloc (winObj 2000000 2 (w.heap.size + 2))).alloc (nodeObj (w.heap.size + 1) (w.heap.size + 3))
theorem node_made (w : World) : NodeAt (nodeW w) (madeN w.heap.size) 0 0 [] ∧ Below w.heap.size w (nodeW w) := by
  have h1 := winN_made w shape10
  have hB1 : Below w.heap.size w ((w.alloc (.map #[] 0)).alloc (winObj 1000000 10 w.heap.size)) := ((Below.refl _ _).alloc (Nat.le_refl _) _).alloc (by simp) _
  have hz1 : ((w.alloc (.map #[] 0)).alloc (winObj 1000000 10 w.heap.size)).heap.size = w.heap.size + 2 := by simp
  unfold nodeW
  generalize (w.alloc (.map #[] 0)).alloc (winObj 1000000 10 w.heap.size) = w1 at *
  have h2 := winN_made w1 shape2
  rw [hz1] at h2
  have hB2 : Below w1.heap.size w1 ((w1.alloc (.map #[] 0)).alloc (winObj 2000000 2 (w.heap.size + 2))) := ((Below.refl _ _).alloc (Nat.le_refl _) _).alloc (by simp) _
  have hz2 : ((w1.alloc (.map #[] 0)).alloc (winObj 2000000 2 (w.heap.size + 2))).heap.size = w.heap.size + 4 := by simp [hz1]
  have h1 := h1.below hB2
  have hB := hB1.trans (hB2.mono (by omega))
  generalize (w1.alloc (.map #[] 0)).alloc (winObj 2000000 2 (w.heap.size + 2)) = w2 at *
  have hB3 : Below w2.heap.size w2 (w2.alloc (nodeObj (w.heap.size + 1) (w.heap.size + 3))) := (Below.refl _ _).alloc (Nat.le_refl _) _
  refine ⟨⟨?_, h1.below hB3, h2.below hB3, ?_, by omega, by omega⟩, hB.trans (hB3.mono (by omega))⟩
  · show (w2.alloc _).heap[w.heap.size + 4]? = _
    rw [← hz2, get_allocW, if_pos rfl]; rfl
  · simp only [madeN, NBk.l, List.nodup_cons, List.mem_cons, List.mem_nil_iff, or_false, not_or, List.not_mem_nil, not_false_eq_true, List.nodup_nil, and_true]
    omega
theorem nodeW_own {w : World} {i : Nat} (h : NOwn (madeN w.heap.size) i) : w.heap.size ≤ i := by
  simp only [NOwn, madeN, NBk.l, List.mem_cons, List.mem_nil_iff, or_false] at h
  omega

set_option maxHeartbeats 1600000 in
theorem snew_any (w : World) : Calls Try.prog 51 #[] w fun e w' => e = .returned (.pointer (some ⟨w.heap.size + 4, 0, none⟩)) ∧ w' = nodeW w := by
  have H1 := Lib.hid (fun (wx : World) => wnew_any wx shape10)
  have H2 := Lib.hid (fun (wx : World) => wnew_any wx shape2)
  obtain ⟨w9, hw9⟩ : ∃ w9, nodeW w = w9 := ⟨_, rfl⟩
  have HW := Lib.hid hw9
  rw [hw9]
  clear hw9
  go_enter Try.func51, Try.ntmps51
  go_wp2_with (fail)
  refine (H1.out _).mono ?_
  rintro e wa ⟨rfl, ha⟩
  have HZ := Lib.hid (show wa.heap.size = w.heap.size + 2 by rw [ha]; simp)
  have HA := Lib.hid ha
  clear ha
  go_wp2_with (fail)
  refine (H2.out wa).mono ?_
  rintro e wb ⟨rfl, hb⟩
  have hzb : wb.heap.size = w.heap.size + 4 := by rw [hb]; simp [HZ.out]
  have HE := Lib.hid (show wb.alloc (nodeObj (w.heap.size + 1) (w.heap.size + 3)) = w9 by rw [← HW.out, hb, HZ.out, HA.out]; rfl)
  rw [HZ.out]
  clear hb HZ HW HA H1 H2
  unfold nodeObj at HE
  go_wp2_with (fail)
  go_ret
  exact ⟨rfl, HE.out⟩

theorem isTime_any (n : Int) (w : World) : Calls Try.prog 46 #[.int .i64 n] w fun e w' => e = .returned (.bool (decide (0 ≤ n) && decide (n ≤ 1152921504606846976))) ∧ w' = w := by
  by_cases h : 0 ≤ n
  · rw [decide_eq_true h, Bool.true_and]
    go_enter Try.func46, Try.ntmps46
    go_wp2_with (fail)
    go_ret
    exact ⟨rfl, rfl⟩
  · rw [decide_eq_false h, Bool.false_and]
    go_enter Try.func46, Try.ntmps46
    go_wp2_with (fail)
    go_ret
    exact ⟨rfl, rfl⟩
set_option maxHeartbeats 800000 in
theorem sflight_any {w : World} {k : NBk} {last flight : Int} {notes : List NoteW} (h : NodeAt w k last flight notes) : Calls Try.prog 37 #[.pointer (some ⟨k.q, 0, none⟩)] w fun e w' => e = .returned (.int .i64 flight) ∧ w' = w := by
  obtain ⟨c0, c1, c2⟩ := h.cells
  clear h
  go_enter Try.func37, Try.ntmps37
  go_wp2_with (fail)
  go_ret
  exact ⟨rfl, rfl⟩
/-- Is a count wrong? -/
def badN (n : Int) : Bool := decide (n < 1) || decide (1099511627776 < n)
def isT (n : Int) : Bool := decide (0 ≤ n) && decide (n ≤ 1152921504606846976)
/-- The error of a time, and of counts. -/
def lookN (last at_ : Int) (ns : List Int) : Int := if isT at_ = false then 2 else if ns.any badN then 2 else if at_ < last then 7 else 0
theorem lookN_ok {last at_ : Int} {ns : List Int} (h : lookN last at_ ns = 0) : lookW last at_ = 0 ∧ ∀ n, n ∈ ns → 1 ≤ n ∧ n ≤ 1099511627776 := by
  unfold lookN isT at h
  unfold lookW
  by_cases h1 : 0 ≤ at_
  · by_cases h2 : at_ ≤ 1152921504606846976
    · rw [decide_eq_true h1, decide_eq_true h2, if_neg (by simp)] at h
      cases h3 : ns.any badN with
      | true => rw [h3, if_pos rfl] at h; cases h
      | false =>
        rw [h3, if_neg (by simp)] at h
        split at h
        · cases h
        · refine ⟨by rw [if_neg (by omega), if_neg (by omega)], fun n hn => ?_⟩
          have := List.any_eq_false.1 h3 n hn
          unfold badN at this
          simp at this
          omega
    · rw [decide_eq_false h2, Bool.and_false, if_pos rfl] at h; cases h
  · rw [decide_eq_false h1, Bool.false_and, if_pos rfl] at h; cases h
theorem lookN_nil (last at_ : Int) : lookN last at_ [] = lookW last at_ := by
  unfold lookN lookW isT
  by_cases h1 : 0 ≤ at_
  · by_cases h2 : at_ ≤ 1152921504606846976
    · rw [decide_eq_true h1, decide_eq_true h2, if_neg (by simp), if_neg (by simp), if_neg (show ¬ (at_ < 0 ∨ 1152921504606846976 < at_) by omega)]
    · rw [decide_eq_false h2, Bool.and_false, if_pos rfl, if_pos (by omega)]
  · rw [decide_eq_false h1, Bool.false_and, if_pos rfl, if_pos (by omega)]
theorem any_takeN {ns : List Int} {k : Nat} (h : (ns.take k).any badN = false) {y : Int} (hy : ns[k]? = some y) (hb : badN y = false) : (ns.take (k + 1)).any badN = false := by
  obtain ⟨hk, rfl⟩ := List.getElem?_eq_some_iff.1 hy
  rw [List.take_succ_eq_append_getElem hk, List.any_append, h, List.any_cons, hb]; rfl
theorem any_hitN {ns : List Int} {k : Nat} {y : Int} (hy : ns[k]? = some y) (hb : badN y = true) : ns.any badN = true := List.any_eq_true.2 ⟨y, List.mem_of_getElem? hy, hb⟩
theorem IntsAt.getN {w : World} {a : Option Addr} {xs : List Int} (h : IntsAt w a xs) {k : Nat} {y : Int} (hy : xs[k]? = some y) : ∃ b off, a = some ⟨b, off, none⟩ ∧ b < w.heap.size ∧ w.cell? ⟨b, off + k, none⟩ = some (.int .i64 y) := by
  obtain ⟨hk, rfl⟩ := List.getElem?_eq_some_iff.1 hy
  rcases h with rfl | ⟨b, off, rfl, hlt, hc⟩
  · simp at hk
  · refine ⟨b, off, rfl, hlt, ?_⟩
    rw [hc k hk, List.getD_eq_getElem?_getD, List.getElem?_eq_getElem hk]; rfl

set_option maxHeartbeats 1600000 in
set_option maxRecDepth 100000 in
theorem slook_any {w : World} {k : NBk} {last flight : Int} {notes : List NoteW} (h : NodeAt w k last flight notes) (at_ : Int) (a : Option Addr) (len cap : Nat) (ns : List Int) (hl : ns.length = len) (hm : len ≤ 9223372036854775807) (hn : IntsAt w a ns) :
    Calls Try.prog 28 #[.pointer (some ⟨k.q, 0, none⟩), .int .i64 at_, .slice a len cap] w fun e w' => e = .returned (.int .i64 (lookN last at_ ns)) ∧ w' = w := by
  obtain ⟨c0, c1, c2⟩ := h.cells
  have HL := Lib.hid (wLastN_any h.sec)
  have HT := Lib.hid (isTime_any at_ w)
  rw [show (decide (0 ≤ at_) && decide (at_ ≤ 1152921504606846976)) = isT at_ from rfl] at HT
  have HN := Lib.hid hn
  have HLN := Lib.hid hl
  obtain ⟨E, hE⟩ : ∃ E, lookN last at_ ns = E := ⟨_, rfl⟩
  have HE := Lib.hid hE
  rw [hE]
  clear h hn hl hE
  cases hT : isT at_ with
  | false =>
    have HE2 := Lib.hid (show E = 2 by rw [← HE.out]; unfold lookN; rw [hT]; rfl)
    rw [hT] at HT
    clear hT
    go_enter Try.func28, Try.ntmps28
    go_wp2_with (fail)
    refine HT.out.mono ?_
    rintro e wq ⟨rfl, hq⟩
    subst hq
    go_wp2_with (fail)
    go_ret
    exact ⟨by rw [HE2.out]; rfl, rfl⟩
  | true =>
    rw [hT] at HT
    have HIT := Lib.hid hT
    clear hT
    go_enter Try.func28, Try.ntmps28
    go_wp2_with (fail)
    refine HT.out.mono ?_
    rintro e wq ⟨rfl, hq⟩
    subst hq
    go_wp2_with (fail)
    go_loop [8, 16] (fun _ i => ∃ j : Nat, j ≤ len ∧ i = .int .i64 j ∧ Hid ((ns.take j).any badN = false)) (fun _ i => len - (intOf i).toNat)
    case atStart => exact ⟨0, Nat.zero_le _, rfl, Lib.hid (by simp)⟩
    case round =>
      obtain ⟨j, hj, rfl, HA⟩ := hrel
      by_cases hlt : j < len
      · have j0 : (0 : Int) ≤ j := by omega
        have j1 : (j : Int) < len := by omega
        obtain ⟨y, hy⟩ : ∃ y, ns[j]? = some y := ⟨_, List.getElem?_eq_getElem (by rw [HLN.out]; exact hlt)⟩
        obtain ⟨b, off, ha, hbl, hc⟩ := HN.out.getN hy
        subst ha
        have HTK := Lib.hid (fun hb => any_takeN HA.out hy hb)
        have HHT := Lib.hid (fun hb => any_hitN hy hb)
        clear hy hbl
        by_cases hb1 : y < 1
        · have HE2 := Lib.hid (show E = 2 by rw [← HE.out]; unfold lookN; rw [HIT.out, if_neg (by simp), if_pos (HHT.out (by simp [badN, hb1]))])
          go_wp2_with (fail)
          go_ret
          exact ⟨by rw [HE2.out]; rfl, rfl⟩
        · by_cases hb2 : 1099511627776 < y
          · have HE2 := Lib.hid (show E = 2 by rw [← HE.out]; unfold lookN; rw [HIT.out, if_neg (by simp), if_pos (HHT.out (by simp [badN, hb2]))])
            go_wp2_with (fail)
            go_ret
            exact ⟨by rw [HE2.out]; rfl, rfl⟩
          · have HB := Lib.hid (HTK.out (by simp [badN]; omega))
            go_wp2_with (fail)
            exact ⟨⟨j + 1, by omega, by go_num, HB⟩, by first | (simp [intOf]; done) | (simp [intOf]; omega)⟩
      · have j1 : ¬ (j : Int) < len := by omega
        have e1 : ns.take j = ns := List.take_of_length_le (by rw [HLN.out]; omega)
        rw [e1] at HA
        clear e1
        by_cases hbk : at_ < last
        · have HE2 := Lib.hid (show E = 7 by rw [← HE.out]; unfold lookN; rw [HIT.out, if_neg (by simp), HA.out, if_neg (by simp), if_pos hbk])
          go_wp2_with (fail)
          refine HL.out.mono ?_
          rintro e wq ⟨rfl, hq⟩
          subst hq
          go_wp2_with (fail)
          go_ret
          exact ⟨by rw [HE2.out]; rfl, rfl⟩
        · have HE2 := Lib.hid (show E = 0 by rw [← HE.out]; unfold lookN; rw [HIT.out, if_neg (by simp), HA.out, if_neg (by simp), if_neg hbk])
          go_wp2_with (fail)
          refine HL.out.mono ?_
          rintro e wq ⟨rfl, hq⟩
          subst hq
          go_wp2_with (fail)
          go_ret
          exact ⟨by rw [HE2.out]; rfl, rfl⟩
end Go.Proofs.Ytpbbidijnmooaaa
