/- Texts of one chain, one behind the other: LruK, LruY, HtL, LruFk. -/
import Derived.OwnWalk
import Derived.Test.YtemlafbkkaloiaaGLruQ
import Derived.Test.YtemlafbkkaloiaaGLruR
import Derived.Test.YtemlafbkkaloiaaGLruV
import Derived.Test.YtemlafbkkaloiaaGSkN

/- lru: the walk of LruKeeps. -/
namespace Go.Proofs.Ytemlafbkkaloiaa
open Go.RowKit
set_option linter.unusedVariables false
set_option linter.unusedSimpArgs false

/-- An own row of texts, read. -/
theorem StrsAt.own {w : World} {base : Nat} {v : Value} {n : Nat} {ss : List ByteArray} (h : w.ownsRow base 9 1 v n (ss.map Value.string)) : ∃ a cap, v = .slice a n cap ∧ StrsAt w a ss ∧ n = ss.length := by
  obtain ⟨h1, h2⟩ := h
  have hn : n = ss.length := by simpa using h1.symm
  rcases h2 with ⟨rfl, rfl⟩ | ⟨g, cap, cur, rfl, hb, hg, hnc, hcm, hcs, htake⟩
  · exact ⟨none, 0, rfl, Or.inl (by cases ss; rfl; simp at hn), hn⟩
  · refine ⟨_, cap, rfl, Or.inr ⟨g, 0, rfl, (Array.getElem?_eq_some_iff.1 hg).1, fun j hj => ?_⟩, hn⟩
    have := World.ownsRow.cells (w := w) (base := base) (e := 9) (size := 1) (n := n) (xs := ss.map Value.string) ⟨h1, Or.inr ⟨g, cap, cur, rfl, hb, hg, hnc, hcm, hcs, htake⟩⟩ (g := g) rfl j (.string (ss.getD j ⟨#[]⟩)) (by simp [hj, List.getD])
    simpa [WideShapes.add_plain] using this


theorem below_drewFK {B : Nat} {a w : World} (h : Below B a w) (n : Nat) : Below B a (w.drewN n) := by
  induction n with
  | zero => exact h
  | succ n ih => exact ih.drew
theorem toList_injK {a b : ByteArray} (h : a.toList = b.toList) : a = b := by
  rw [ByteArray.toList_eq, ByteArray.toList_eq] at h
  rcases a with ⟨⟨l⟩⟩; rcases b with ⟨⟨l'⟩⟩; simpa using h

/-- Keys seen so far, at the place c. -/
def seenK (ks : List ByteArray) (i c : Nat) : List KV := ded ((zs ks i).take (i - c))
theorem seenK_next {ks : List ByteArray} {i c : Nat} (hc : c < i) : seenK ks i c = if inK (seenK ks i (c + 1)) (ks.getD c ⟨#[]⟩) then seenK ks i (c + 1) else seenK ks i (c + 1) ++ [(ks.getD c ⟨#[]⟩, (c : Int))] := by
  have hz := zs_get ks i (i - (c + 1)) (by omega)
  rw [show i - 1 - (i - (c + 1)) = c by omega] at hz
  have ht : (zs ks i).take (i - c) = (zs ks i).take (i - (c + 1)) ++ [(ks.getD c ⟨#[]⟩, (c : Int))] := by
    rw [show i - c = (i - (c + 1)) + 1 by omega, List.take_add_one, hz]; rfl
  unfold seenK
  rw [ht, ded_snoc]
theorem seenK_held {n : Nat} {A : List KV} {ks : List ByteArray} {i c : Nat} (hc : c < i) (h : A.reverse = (ded (zs ks i)).take n) (hnew : inK (seenK ks i (c + 1)) (ks.getD c ⟨#[]⟩) = false) (hroom : (seenK ks i (c + 1)).length < n) :
    hasA A (ks.getD c ⟨#[]⟩) = true ∧ valA A (ks.getD c ⟨#[]⟩) = (c : Int) := by
  have := held_there (n := n) (A := A) (ks := ks) (i := i) (j := i - (c + 1)) (by omega) h
  rw [show i - 1 - (i - (c + 1)) = c by omega] at this
  exact this hnew hroom
theorem seenK_start (ks : List ByteArray) (i : Nat) : seenK ks i i = [] := by simp [seenK, ded]
theorem seenK_le (ks : List ByteArray) (i c : Nat) : (seenK ks i c).length ≤ i := by
  have key : ∀ Z : List KV, (ded Z).length ≤ Z.length := by
    intro Z
    induction Z with
    | nil => simp [ded]
    | cons x Z ih => simp only [ded, List.length_cons]; have := List.length_filter_le (fun p : KV => !decide (p.1 = x.1)) (ded Z); omega
  have h := key ((zs ks i).take (i - c))
  rw [List.length_take, zs_len] at h
  unfold seenK
  omega
def stK (D : List KV) : List ByteArray := D.map (·.1)
theorem stK_len (D : List KV) : (stK D).length = D.length := by simp [stK]
theorem inK_take (D : List KV) (s : ByteArray) {q : Nat} (hq : q < D.length) : inK (D.take (q + 1)) s = (inK (D.take q) s || ((stK D).getD q ⟨#[]⟩).toList == s.toList) := by
  rw [List.take_add_one, inK, List.any_append]
  have : D[q]? = some D[q] := List.getElem?_eq_getElem hq
  rw [this]
  simp only [Option.toList_some, List.any_cons, List.any_nil, Bool.or_false]
  have e : (stK D).getD q ⟨#[]⟩ = D[q].1 := by simp [stK, List.getD, hq]
  rw [e]
  have e2 : decide (D[q].1 = s) = (D[q].1.toList == s.toList) := by
    by_cases h : D[q].1 = s
    · simp [h]
    · have : D[q].1.toList ≠ s.toList := fun e => h (toList_injK e)
      simp [h, this]
  rw [e2]; rfl


end Go.Proofs.Ytemlafbkkaloiaa

/- lru: Keys and Fork; sameTexts; nil ones. -/
namespace Go.Proofs.Ytemlafbkkaloiaa
open Go.RowKit
set_option linter.unusedVariables false
set_option linter.unusedSimpArgs false

theorem kcell_at (w : World) (u : Value) (t : TypeId) {b : Nat} (hb : b = w.heap.size) : ∀ j x, ([u] : List Value)[j]? = some x → (w.alloc (.cells #[u] t)).cell? ((⟨b, 0, none⟩ : Addr).add j) = some x := by
  subst hb
  exact kcell_one w u t

/-- Pairs in an own row, read. -/
theorem own_pairs {w : World} {base : Nat} {e : TypeId} {v : Value} {n : Nat} {A : List (ByteArray × Int)} (h : w.ownsRow base e 2 v n (flatP A)) (hn : n = A.length) :
    ∃ a cap, v = .slice a n cap ∧ ∀ k (hk : k < A.length), ∃ g, a = some ⟨g, 0, none⟩ ∧ base ≤ g ∧ g < w.heap.size ∧ w.cell? ⟨g, k * 2, none⟩ = some (.string (A[k]'hk).1) ∧ w.cell? ⟨g, k * 2 + 1, none⟩ = some (.int .i64 (A[k]'hk).2) := by
  obtain ⟨h1, h2⟩ := h
  rcases h2 with ⟨rfl, h2⟩ | ⟨g, cap, cur, rfl, hb, hg, hnc, hcm, hcs, htake⟩
  · exact ⟨none, 0, by rw [h2], fun k hk => by omega⟩
  · refine ⟨some ⟨g, 0, none⟩, cap, rfl, fun k hk => ⟨g, rfl, hb, (Array.getElem?_eq_some_iff.1 hg).1, ?_⟩⟩
    have hc := World.ownsRow.cells (w := w) (base := base) (e := e) (size := 2) (n := n) (xs := flatP A) ⟨h1, Or.inr ⟨g, cap, cur, rfl, hb, hg, hnc, hcm, hcs, htake⟩⟩ (g := g) rfl
    obtain ⟨e1, e2⟩ := flatP_get A k hk
    have r1 := hc _ _ e1
    have r2 := hc _ _ e2
    rw [WideShapes.add_plain, Nat.zero_add] at r1 r2
    exact ⟨r1, r2⟩

set_option maxHeartbeats 6400000 in
set_option maxRecDepth 100000 in
theorem lkeys_any {w : World} {m mp most : Nat} {L : List LNode} (h : Lru w m mp most L) :
    Calls Try.prog 25 #[.pointer (some ⟨m, 0, none⟩)] w fun e w' => ∃ v', e = .returned v' ∧ w'.ownsRow w.heap.size 9 1 v' L.length (((pr L).map (·.1)).map Value.string) ∧ Below w.heap.size w w' := by
  obtain ⟨i0, hi, hz0, hz1, hz2⟩ := info_parts info_strK
  have hsm : L.length ≤ 4096 := by have := h.cap; have := h.big; omega
  have HP := Lib.hid (lpairs_any h)
  have hlen := pr_len L
  rw [← hlen] at HP hsm ⊢
  generalize pr L = A at HP hsm ⊢
  clear h hlen
  go_enter Try.func25, Try.ntmps25
  go_wp2_with (fail)
  refine HP.out.mono ?_
  rintro e w1 ⟨pv, rfl, hp1, hb1⟩
  obtain ⟨pa, pc, rfl, hpc⟩ := own_pairs hp1 rfl
  have HPC := Lib.hid hpc
  have HB1 := Lib.hid hb1
  have hz1' := hb1.size
  clear hp1 hpc hb1
  go_wp2_with (fail)
  go_loopw [3, 11] (fun l i wr => ∃ k : Nat, k ≤ A.length ∧ i = .int .i64 k ∧ Hid (wr.ownsRow w1.heap.size 9 1 l k (((A.take k).map (·.1)).map Value.string)) ∧ Below w1.heap.size w1 wr) (fun _ i _ => A.length - (intOf i).toNat)
  case atStart => exact ⟨0, Nat.zero_le _, rfl, World.ownsRow_nil _ _ _ _, Below.refl _ _⟩
  case round =>
    obtain ⟨k, hk, rfl, hrow, hb⟩ := hrel
    obtain ⟨la, lc, rfl⟩ := own_sliceR hrow.out
    have k0 : (0 : Int) ≤ k := by omega
    have kl : (A.length : Int) ≤ 4096 := by omega
    by_cases hlt : k < A.length
    · have k1 : (k : Int) < A.length := by omega
      obtain ⟨g, rfl, hg0, hg1, d1, d2⟩ := HPC.out k hlt
      have d1 := (hb.cell (p := ⟨g, k * 2, none⟩) hg1).trans d1
      have d2 := (hb.cell (p := ⟨g, k * 2 + 1, none⟩) hg1).trans d2
      have hnext : ((A.take (k + 1)).map (·.1)).map Value.string = ((A.take k).map (·.1)).map Value.string ++ [.string (A[k]'hlt).1] := by
        rw [List.take_add_one, List.getElem?_eq_getElem hlt, List.map_append, List.map_append]; rfl
      have HN := Lib.hid hnext
      have hrow2 := (hrow.out).alloc (.cells #[.string (A[k]'hlt).1, .int .i64 (A[k]'hlt).2] 83)
      have hb2 : Below w1.heap.size w1 (wr.alloc (.cells #[.string (A[k]'hlt).1, .int .i64 (A[k]'hlt).2] 83)) := hb.alloc hb.size _
      generalize (A[k]'hlt).1 = key at d1 HN hrow2 hb2
      generalize (A[k]'hlt).2 = val at d2 hrow2 hb2
      have hbz := hb2.size
      clear hnext
      go_wp2_with (at_builtin; refine wpList_append_own _ rfl (.tmp 15) (.tmp 18) 42 rfl w1.heap.size 9 i0 (.string ⟨#[]⟩) 1 16 Try.underlying42 hi hz0 hz1 hz2 rfl (by decide) (.slice la k lc) k (((A.take k).map (·.1)).map Value.string) rfl (hrow2.alloc _) ⟨_, 0, none⟩ 1 1 [.string key] rfl rfl (kcell_at _ _ _ (by simp)) (by simp [Value.oneCell']) (by unfold maxLen; omega) (by omega) (by simp at hbz ⊢; omega) ?_; intro v3 w3 hown3 hg3 _; have hb3 := after_append (w3 := w1) hrow2 hbz hb2 hg3; clear hg3)
      exact ⟨⟨k + 1, by omega, by go_num, by rw [HN.out]; exact hown3, hb3⟩, by first | (simp [intOf]; done) | (simp [intOf]; omega)⟩
    · go_wp2_with (fail)
      go_ret
      have hkk : A.take k = A := List.take_of_length_le (by omega)
      have hke : k = A.length := by omega
      subst hke
      rw [hkk] at hrow
      exact ⟨_, rfl, ownsRow_mono hrow.out hz1', HB1.out.trans (hb.mono hz1')⟩

set_option maxHeartbeats 1600000 in
theorem lget_nil (s : ByteArray) (w : World) : Calls Try.prog 42 #[.pointer none, .string s] w fun e w' => e = .returned (.tuple #[.int .i64 0, .bool false]) ∧ w' = w := by
  have HP := Lib.hid (peek_nil s w)
  go_enter Try.func42, Try.ntmps42
  go_wp2_with (fail)
  refine HP.out.mono ?_
  rintro e w1 ⟨rfl, rfl⟩
  go_wp2_with (fail)
  go_ret2
  exact ⟨rfl, rfl⟩
set_option maxHeartbeats 1600000 in
theorem lkeys_nil (w : World) : Calls Try.prog 25 #[.pointer none] w fun e w' => e = .returned (.slice none 0 0) ∧ w' = w := by
  go_enter Try.func25, Try.ntmps25
  go_wp2_with (fail)
  go_ret
  exact ⟨rfl, rfl⟩
set_option maxHeartbeats 1600000 in
theorem lfork_nil (w : World) : Calls Try.prog 26 #[.pointer none] w fun e w' => e = .returned (.pointer none) ∧ w' = w := by
  go_enter Try.func26, Try.ntmps26
  go_wp2_with (fail)
  go_ret
  exact ⟨rfl, rfl⟩
set_option maxHeartbeats 3200000 in
theorem ldrop_nil1 (s : ByteArray) (w : World) (b : Nat) (h : w.cell? ⟨b, 0, none⟩ = some (.string s)) :
    Calls Try.prog 65 #[.pointer none, .slice (some ⟨b, 0, none⟩) 1 1] w fun e w' => e = .returned (.int .i64 0) ∧ w' = w := by
  have HP := Lib.hid (peek_nil s w)
  go_enter Try.func65, Try.ntmps65
  go_wp2_with (fail)
  go_loop [5, 12] (fun n i => n = .int .i64 0 ∧ (i = .int .i64 0 ∨ i = .int .i64 1)) (fun _ i => 1 - (intOf i).toNat)
  case atStart => exact ⟨rfl, Or.inl rfl⟩
  case round =>
    obtain ⟨rfl, rfl | rfl⟩ := hrel
    · go_wp2_with (fail)
      refine HP.out.mono ?_
      rintro e w1 ⟨rfl, rfl⟩
      go_wp2_with (fail)
      exact ⟨⟨rfl, Or.inr rfl⟩, by simp [intOf]⟩
    · go_wp2_with (fail)
      go_ret
      exact ⟨rfl, rfl⟩
end Go.Proofs.Ytemlafbkkaloiaa

/- hot: what must be whatever is asked. -/
namespace Go.Proofs.Ytemlafbkkaloiaa
open Go.RowKit
set_option linter.unusedVariables false
set_option linter.unusedSimpArgs false

set_option maxHeartbeats 3200000 in
theorem hKept_any {w : World} {c : HotC} {s : HotV} (k : HotAt w c s) :
    Calls Try.prog 12 #[.pointer (some ⟨c.hb, 0, none⟩)] w fun e w' => ∃ a cap, e = .returned (.slice a s.L.length cap) ∧ w'.ownsRow w.heap.size 9 1 (.slice a s.L.length cap) s.L.length (((pr s.L).map (·.1)).map Value.string) ∧ Below w.heap.size w w' := by
  obtain ⟨_, _, _, _, _, c5, _⟩ := k.cells
  have HK := Lib.hid (lkeys_any k.lru)
  clear k
  go_enter Try.func12, Try.ntmps12
  go_wp2_with (fail)
  refine HK.out.mono ?_
  rintro e w1 ⟨v, rfl, h1, h2⟩
  go_wp2_with (fail)
  go_ret
  obtain ⟨a, cap, rfl⟩ : ∃ a cap, v = .slice a s.L.length cap := by
    rcases h1.2 with ⟨rfl, h0⟩ | ⟨g, cap, cur, rfl, _⟩
    · exact ⟨none, 0, by rw [h0]⟩
    · exact ⟨_, cap, rfl⟩
  exact ⟨a, cap, rfl, h1, h2⟩

theorem usedH_new {w w' : World} {R : HotS} {keys seed : Int} {c : HotC} {s : HotV} (h : NewHot w R keys seed w' c s) (at_ : Int) (key : ByteArray) : usedH c s at_ key = 0 := by
  rw [usedH_V]
  have : s.V key = none := by unfold HotV.V findW; rw [h.WS]; rfl
  rw [this, h.sn]
  exact est_nil (by show 1 ≤ (4 : Int); omega) key
theorem live_first {w w' : World} {c : HotC} {s : HotV} (h : NewHot w liveHot 1 7 w' c s) : lookHE s.last 0 liveXH 2 = 0 ∧ lookHB c s 0 liveXH 2 = true := by
  have e1 : lookHE s.last 0 liveXH 2 = 0 := by rw [h.last]; decide
  refine ⟨e1, ?_⟩
  unfold lookHB
  rw [e1, usedH_new h]
  obtain ⟨a', c', hR⟩ := h.R
  rw [hR, live_limit]
  decide
theorem live_second {w w' w2 : World} {c : HotC} {s s2 : HotV} (h : NewHot w liveHot 1 7 w' c s) (t : TakePost w' c s 0 liveXH 2 w2 s2) : lookHE s2.last 1 liveXH 1 = 0 ∧ lookHB c s2 1 liveXH 1 = false ∧ s2.L.length = 1 := by
  obtain ⟨hE, hB⟩ := live_first h
  have hl := (t.last hB).1
  have e1 : lookHE s2.last 1 liveXH 1 = 0 := by rw [hl]; decide
  have hv := t.vals hB liveXH
  have hn : s.V liveXH = none := by unfold HotV.V findW; rw [h.WS]; rfl
  rw [if_pos rfl, hn, usedH_new h] at hv
  refine ⟨e1, ?_, ?_⟩
  · unfold lookHB
    rw [e1, usedH_V, hv]
    obtain ⟨a', c', hR⟩ := h.R
    rw [hR, live_limit]
    show (decide ((0 : Int) = 0) && decide ((winC ((1 : Int) * 100000) 10 1 [⟨0, passH 0⟩, ⟨0, passH 2⟩]).p ≤ 2 - 1)) = false
    rw [winC_p]
    decide
  · have hr := t.rows hB
    rw [h.L] at hr
    have : (pr s2.L).length = 1 := by
      rw [hr]
      have hN : (c.N : Int) = 1 := h.N
      have hN : c.N = 1 := by omega
      rw [hN]
      decide
    rw [pr_len] at this
    exact this

set_option maxHeartbeats 6400000 in
set_option maxRecDepth 100000 in
theorem htlive_any (w : World) : Calls Try.prog 7 #[] w fun e w' => e = .returned (.bool true) ∧ Below w.heap.size w w' := by
  have HNW : Hid (Calls Try.prog 6 #[.agg #[.string ⟨#[97]⟩, .int .i64 0, .int .i64 2, .int .i64 1, .slice none 0 0], .int .i64 1, .int .u64 7] w _) := hnew_any liveHot (liveHot_ok w) 1 7 (by omega) (by omega)
  go_enter Try.func7, Try.ntmps7
  go_wp2_with (fail)
  refine HNW.out.mono ?_
  rintro e w1 ⟨hb1, _, hy⟩
  obtain ⟨c, s, rfl, h1⟩ := hy liveHot_new
  have HT := htake_any h1.hot 0 liveXH (by decide) 2
  rw [(live_first h1).1, (live_first h1).2] at HT
  unfold liveXH at HT
  have HT := Lib.hid HT
  have H1 := Lib.hid h1
  have HB1 := Lib.hid hb1
  clear hy h1 hb1 HNW
  go_wp2_with (fail)
  refine HT.out.mono ?_
  rintro e w2 ⟨s2, rfl, t2⟩
  obtain ⟨f1, f2, f3⟩ := live_second H1.out t2
  have HT2 := htake_any t2.hot 1 liveXH (by decide) 1
  rw [f1, f2] at HT2
  unfold liveXH at HT2
  have HT2 := Lib.hid HT2
  have hz1 := HB1.out.size
  have HB2 := Lib.hid (HB1.out.trans (t2.off.below (B := w.heap.size) hz1 (fun i hi h => by have := H1.out.own i h; omega)))
  have HOW := Lib.hid (show ∀ i, HOwn c s2 i → w.heap.size ≤ i from fun i hi => by
    rcases t2.own i hi with h | h
    · exact H1.out.own i h
    · omega)
  have HL2 := Lib.hid f3
  have HNO := Lib.hid (And.intro f1 f2)
  clear HT f1 f2 f3 t2 hz1
  go_wp2_with (fail)
  refine HT2.out.mono ?_
  rintro e w3 ⟨s3, rfl, t3⟩
  have h3 := t3.no HNO.out.1 HNO.out.2
  have HB3 := Lib.hid (HB2.out.trans (t3.off.below (B := w.heap.size) HB2.out.size (fun i hi h => by have := HOW.out i h; omega)))
  have HOT3 := Lib.hid t3.hot
  have hl3 : s3.L.length = 1 := by rw [h3]; exact HL2.out
  have HL3 := Lib.hid hl3
  have HLM := hLimit_any t3.hot ⟨#[120]⟩
  obtain ⟨a', c', hR⟩ := H1.out.R
  rw [hR, live_limit] at HLM
  have HLM := Lib.hid HLM
  clear hR hl3 h3 t3 HT2 HB2 HOW HL2 HNO HB1 H1
  go_wp2_with (fail)
  refine HLM.out.mono ?_
  rintro e w4 ⟨rfl, hb4⟩
  have HOT4 := Lib.hid (HOT3.out.below hb4)
  have HB4 := Lib.hid (HB3.out.trans (hb4.mono HB3.out.size))
  have HKP := hKept_any HOT4.out
  rw [HL3.out] at HKP
  have HKP := Lib.hid HKP
  clear HLM hb4 HOT3 HB3
  go_wp2_with (fail)
  refine HKP.out.mono ?_
  rintro e w5 ⟨a, cap, rfl, _, hb5⟩
  have HB5 := Lib.hid (HB4.out.trans (hb5.mono HB4.out.size))
  clear hb5 HKP
  go_wp2_with (fail)
  go_ret
  exact ⟨by rfl, HB5.out⟩
end Go.Proofs.Ytemlafbkkaloiaa

/- lru: Fork. -/
namespace Go.Proofs.Ytemlafbkkaloiaa
open Go.RowKit
set_option linter.unusedVariables false
set_option linter.unusedSimpArgs false

theorem put_take {most : Nat} {A : List (ByteArray × Int)} (hn : (A.map (·.1)).Nodup) (hl : A.length ≤ most) {k : Nat} (hk : k < A.length) : putA most (A.take k) (A[k]'hk).1 (A[k]'hk).2 = A.take (k + 1) := by
  have hno : hasA (A.take k) (A[k]'hk).1 = false := by
    simp only [hasA, List.any_eq_false, decide_eq_true_eq]
    intro p hp e
    obtain ⟨j, hj, rfl⟩ := List.getElem_of_mem hp
    have hjk : j < k := by simp at hj; omega
    rw [List.getElem_take] at e
    have : (A.map (·.1))[j]'(by simp; omega) = (A.map (·.1))[k]'(by simpa using hk) := by simpa using e
    have := (List.getElem_inj hn).1 this
    omega
  have hlen : (A.take k).length ≠ most := by simp; omega
  rw [putA, hno, if_neg (by simp), if_neg hlen, List.take_add_one, List.getElem?_eq_getElem hk]
  rfl

set_option maxHeartbeats 6400000 in
set_option maxRecDepth 100000 in
theorem lfork_any {w : World} {m mp most : Nat} {L : List LNode} (h : Lru w m mp most L) :
    Calls Try.prog 26 #[.pointer (some ⟨m, 0, none⟩)] w fun e w' => e = .returned (.pointer (some ⟨w.heap.size + 1, 0, none⟩)) ∧ ∃ L', Lru w' (w.heap.size + 1) w.heap.size most L' ∧ pr L' = pr L ∧ Below w.heap.size w w' ∧ (∀ b, Lown (w.heap.size + 1) w.heap.size L' b → w.heap.size ≤ b) := by
  have hsm : L.length ≤ 4096 := by have := h.cap; have := h.big; omega
  have c0 := h.body.c0
  have hbig := h.big
  have hcap := h.cap
  have HS := Lib.hid h.body.small
  have hnd : ((pr L).map (·.1)).Nodup := by have := h.body.keys; simpa [pr, List.map_map, Function.comp_def] using this
  have HND := Lib.hid hnd
  have HL := Lib.hid h
  clear h hnd
  go_enter Try.func26, Try.ntmps26
  go_wp2_with (fail)
  refine (lnew_any w most (by omega)).mono ?_
  rintro e w1 ⟨rfl, hf1, hb1, z1⟩
  rw [show Int.toNat (most : Int) = most from rfl] at hf1
  have HF1 := Lib.hid hf1
  have HB1 := Lib.hid hb1
  have hown := own_empty (m := w.heap.size + 1) (mp := w.heap.size) (base := w.heap.size) (by omega) (by omega)
  have HP := Lib.hid (lpairs_any (HL.out.below hb1))
  have hlen := pr_len L
  clear hf1 hb1
  rw [← hlen] at HP hsm hcap
  have hsz : ∀ p, p ∈ pr L → p.1.size ≤ maxLen := by
    intro p hp
    obtain ⟨x, hx, rfl⟩ := List.mem_map.1 hp
    exact HS.out x hx
  have HSZ := Lib.hid hsz
  generalize hA : pr L = A at HP hsm hcap HND HSZ ⊢
  have HA := Lib.hid hA
  clear hsz hlen hA
  generalize hF : w.heap.size + 1 = F at HF1 hown ⊢
  generalize hM : w.heap.size = M at HF1 HB1 hown ⊢
  have HZ := Lib.hid hM
  have hz1 : w1.heap.size = M + 2 := by omega
  have hFM : F = M + 1 := by omega
  have HFM := Lib.hid hFM
  clear hM hF z1 hFM
  go_wp2_with (fail)
  refine HP.out.mono ?_
  rintro e w2 ⟨pv, rfl, hp2, hb2⟩
  obtain ⟨pa, pc, rfl, hpc⟩ := own_pairs hp2 rfl
  have HPC := Lib.hid hpc
  have hz2 := hb2.size
  have HF2 := Lib.hid (HF1.out.below hb2)
  have HB2 := Lib.hid (HB1.out.trans (hb2.mono (by omega)))
  clear hp2 hpc hb2
  go_wp2_with (fail)
  go_loopw [20] (fun i wr => ∃ (k : Nat) (L' : List LNode), k ≤ A.length ∧ i = .int .i64 k ∧ Hid (Lru wr F M most L') ∧ Hid (pr L' = A.take k) ∧ Hid (∀ b, Lown F M L' b → M ≤ b ∧ (b < M + 2 ∨ w2.heap.size ≤ b)) ∧ Off (fun b => b = F ∨ b = M) w2 wr) (fun i _ => A.length - (intOf i).toNat)
  case atStart => exact ⟨0, [], Nat.zero_le _, rfl, HF2, by show pr [] = List.take 0 A; simp [pr], fun b hb => by
      have hFM := HFM.out
      rcases hb with e | e | e
      · omega
      · omega
      · simp at e, Off.refl _ _⟩
  case round =>
    obtain ⟨k, L', hk, rfl, HL', Hp, Hown, hoff⟩ := hrel
    have k0 : (0 : Int) ≤ k := by omega
    have kl : (A.length : Int) ≤ 4096 := by omega
    by_cases hlt : k < A.length
    · have k1 : (k : Int) < A.length := by omega
      obtain ⟨g, rfl, hg0, hg1, d1, d2⟩ := HPC.out k hlt
      have d1 := hoff.cell d1 (by show ¬ (g = F ∨ g = M); have := HFM.out; omega)
      have d2 := hoff.cell d2 (by show ¬ (g = F ∨ g = M); have := HFM.out; omega)
      have hnext := put_take HND.out hcap hlt
      have hks := HSZ.out _ (List.getElem_mem hlt)
      have HN := Lib.hid hnext
      have HKS := Lib.hid hks
      generalize (A[k]'hlt).1 = key at d1 HN HKS
      generalize (A[k]'hlt).2 = val at d2 HN
      have hoffz := hoff.size
      have hba : Below wr.heap.size wr (wr.alloc (.cells #[.string key, .int .i64 val] 83)) := (Below.refl _ _).alloc (Nat.le_refl _) _
      have HBA := Lib.hid hba
      have HLA := Lib.hid (HL'.out.below hba)
      clear hnext hks hba
      go_wp2_with (fail)
      refine (lput_any HLA.out HKS.out val).mono ?_
      rintro e w4 ⟨L4, rfl, hl4, hp4, ho4, hs4⟩
      have H4 := Lib.hid (And.intro hl4 (And.intro hp4 (And.intro ho4 hs4)))
      clear hl4 hp4 ho4 hs4
      go_wp2_with (fail)
      have za := HBA.out.size
      refine ⟨⟨k + 1, L4, by omega, by go_num, H4.out.1, ?_, fun b hb => ?_, ?_⟩, by first | (simp [intOf]; done) | (simp [intOf]; omega)⟩
      · have e : pr L4 = A.take (k + 1) := by rw [H4.out.2.1, Hp.out, HN.out]
        exact e
      · rcases H4.out.2.2.2 b hb with e | e
        · exact Hown.out b e
        · omega
      · refine (hoff.trans (Off.ofBelow (S := fun b => b = F ∨ b = M) HBA.out) (fun _ _ e => e)).trans H4.out.2.2.1 (fun i hi e => ?_)
        have := Hown.out i e
        have := HFM.out
        show i = F ∨ i = M
        omega
    · go_wp2_with (fail)
      go_ret
      have hkk : A.take k = A := List.take_of_length_le (by omega)
      have e : pr L' = pr L := by rw [Hp.out, hkk, HA.out]
      have hf := HFM.out
      subst hf
      have hz := HZ.out
      subst hz
      refine ⟨rfl, L', HL'.out, e, ?_, fun b hb => (Hown.out b hb).1⟩
      exact HB2.out.trans (hoff.below (by omega) (fun i hi e => by have := HFM.out; rcases e with e | e <;> omega))
end Go.Proofs.Ytemlafbkkaloiaa
