/- Texts of one chain, one behind the other: LruK, LruY, HtL, HtOp, HtM, HtN. -/
import Derived.OwnWalk
import Derived.Test.YtemlafbkkaloiaaGLruQ
import Derived.Test.YtemlafbkkaloiaaGLruR
import Derived.Test.YtemlafbkkaloiaaGLruV
import Derived.Test.YtemlafbkkaloiaaGSkN

/- lru: the walk of LruKeeps. -/
namespace Go.Proofs.Ytemlafbkkaloiaa
open Go.RowKit
set_option linter.unusedVariables false
set_option linter.unusedSimpArgs false

/-- An own row of texts, read. -/
theorem StrsAt.own {w : World} {base : Nat} {v : Value} {n : Nat} {ss : List ByteArray} (h : w.ownsRow base 9 1 v n (ss.map Value.string)) : ∃ a cap, v = .slice a n cap ∧ StrsAt w a ss ∧ n = ss.length := by
  obtain ⟨h1, h2⟩ := h
  have hn : n = ss.length := by simpa using h1.symm
  rcases h2 with ⟨rfl, rfl⟩ | ⟨g, cap, cur, rfl, hb, hg, hnc, hcm, hcs, htake⟩
  · exact ⟨none, 0, rfl, Or.inl (by cases ss; rfl; simp at hn), hn⟩
  · refine ⟨_, cap, rfl, Or.inr ⟨g, 0, rfl, (Array.getElem?_eq_some_iff.1 hg).1, fun j hj => ?_⟩, hn⟩
    have := World.ownsRow.cells (w := w) (base := base) (e := 9) (size := 1) (n := n) (xs := ss.map Value.string) ⟨h1, Or.inr ⟨g, cap, cur, rfl, hb, hg, hnc, hcm, hcs, htake⟩⟩ (g := g) rfl j (.string (ss.getD j ⟨#[]⟩)) (by simp [hj, List.getD])
    simpa [WideShapes.add_plain] using this


theorem below_drewFK {B : Nat} {a w : World} (h : Below B a w) (n : Nat) : Below B a (w.drewN n) := by
  induction n with
  | zero => exact h
  | succ n ih => exact ih.drew
theorem toList_injK {a b : ByteArray} (h : a.toList = b.toList) : a = b := by
  rw [ByteArray.toList_eq, ByteArray.toList_eq] at h
  rcases a with ⟨⟨l⟩⟩; rcases b with ⟨⟨l'⟩⟩; simpa using h

/-- Keys seen so far, at the place c. -/
def seenK (ks : List ByteArray) (i c : Nat) : List KV := ded ((zs ks i).take (i - c))
theorem seenK_next {ks : List ByteArray} {i c : Nat} (hc : c < i) : seenK ks i c = if inK (seenK ks i (c + 1)) (ks.getD c ⟨#[]⟩) then seenK ks i (c + 1) else seenK ks i (c + 1) ++ [(ks.getD c ⟨#[]⟩, (c : Int))] := by
  have hz := zs_get ks i (i - (c + 1)) (by omega)
  rw [show i - 1 - (i - (c + 1)) = c by omega] at hz
  have ht : (zs ks i).take (i - c) = (zs ks i).take (i - (c + 1)) ++ [(ks.getD c ⟨#[]⟩, (c : Int))] := by
    rw [show i - c = (i - (c + 1)) + 1 by omega, List.take_add_one, hz]; rfl
  unfold seenK
  rw [ht, ded_snoc]
theorem seenK_held {n : Nat} {A : List KV} {ks : List ByteArray} {i c : Nat} (hc : c < i) (h : A.reverse = (ded (zs ks i)).take n) (hnew : inK (seenK ks i (c + 1)) (ks.getD c ⟨#[]⟩) = false) (hroom : (seenK ks i (c + 1)).length < n) :
    hasA A (ks.getD c ⟨#[]⟩) = true ∧ valA A (ks.getD c ⟨#[]⟩) = (c : Int) := by
  have := held_there (n := n) (A := A) (ks := ks) (i := i) (j := i - (c + 1)) (by omega) h
  rw [show i - 1 - (i - (c + 1)) = c by omega] at this
  exact this hnew hroom
theorem seenK_start (ks : List ByteArray) (i : Nat) : seenK ks i i = [] := by simp [seenK, ded]
theorem seenK_le (ks : List ByteArray) (i c : Nat) : (seenK ks i c).length ≤ i := by
  have key : ∀ Z : List KV, (ded Z).length ≤ Z.length := by
    intro Z
    induction Z with
    | nil => simp [ded]
    | cons x Z ih => simp only [ded, List.length_cons]; have := List.length_filter_le (fun p : KV => !decide (p.1 = x.1)) (ded Z); omega
  have h := key ((zs ks i).take (i - c))
  rw [List.length_take, zs_len] at h
  unfold seenK
  omega
def stK (D : List KV) : List ByteArray := D.map (·.1)
theorem stK_len (D : List KV) : (stK D).length = D.length := by simp [stK]
theorem inK_take (D : List KV) (s : ByteArray) {q : Nat} (hq : q < D.length) : inK (D.take (q + 1)) s = (inK (D.take q) s || ((stK D).getD q ⟨#[]⟩).toList == s.toList) := by
  rw [List.take_add_one, inK, List.any_append]
  have : D[q]? = some D[q] := List.getElem?_eq_getElem hq
  rw [this]
  simp only [Option.toList_some, List.any_cons, List.any_nil, Bool.or_false]
  have e : (stK D).getD q ⟨#[]⟩ = D[q].1 := by simp [stK, List.getD, hq]
  rw [e]
  have e2 : decide (D[q].1 = s) = (D[q].1.toList == s.toList) := by
    by_cases h : D[q].1 = s
    · simp [h]
    · have : D[q].1.toList ≠ s.toList := fun e => h (toList_injK e)
      simp [h, this]
  rw [e2]; rfl


end Go.Proofs.Ytemlafbkkaloiaa

/- lru: Keys and Fork; sameTexts; nil ones. -/
namespace Go.Proofs.Ytemlafbkkaloiaa
open Go.RowKit
set_option linter.unusedVariables false
set_option linter.unusedSimpArgs false

theorem kcell_at (w : World) (u : Value) (t : TypeId) {b : Nat} (hb : b = w.heap.size) : ∀ j x, ([u] : List Value)[j]? = some x → (w.alloc (.cells #[u] t)).cell? ((⟨b, 0, none⟩ : Addr).add j) = some x := by
  subst hb
  exact kcell_one w u t

/-- Pairs in an own row, read. -/
theorem own_pairs {w : World} {base : Nat} {e : TypeId} {v : Value} {n : Nat} {A : List (ByteArray × Int)} (h : w.ownsRow base e 2 v n (flatP A)) (hn : n = A.length) :
    ∃ a cap, v = .slice a n cap ∧ ∀ k (hk : k < A.length), ∃ g, a = some ⟨g, 0, none⟩ ∧ base ≤ g ∧ g < w.heap.size ∧ w.cell? ⟨g, k * 2, none⟩ = some (.string (A[k]'hk).1) ∧ w.cell? ⟨g, k * 2 + 1, none⟩ = some (.int .i64 (A[k]'hk).2) := by
  obtain ⟨h1, h2⟩ := h
  rcases h2 with ⟨rfl, h2⟩ | ⟨g, cap, cur, rfl, hb, hg, hnc, hcm, hcs, htake⟩
  · exact ⟨none, 0, by rw [h2], fun k hk => by omega⟩
  · refine ⟨some ⟨g, 0, none⟩, cap, rfl, fun k hk => ⟨g, rfl, hb, (Array.getElem?_eq_some_iff.1 hg).1, ?_⟩⟩
    have hc := World.ownsRow.cells (w := w) (base := base) (e := e) (size := 2) (n := n) (xs := flatP A) ⟨h1, Or.inr ⟨g, cap, cur, rfl, hb, hg, hnc, hcm, hcs, htake⟩⟩ (g := g) rfl
    obtain ⟨e1, e2⟩ := flatP_get A k hk
    have r1 := hc _ _ e1
    have r2 := hc _ _ e2
    rw [WideShapes.add_plain, Nat.zero_add] at r1 r2
    exact ⟨r1, r2⟩

set_option maxHeartbeats 6400000 in
set_option maxRecDepth 100000 in
theorem lkeys_any {w : World} {m mp most : Nat} {L : List LNode} (h : Lru w m mp most L) :
    Calls Try.prog 25 #[.pointer (some ⟨m, 0, none⟩)] w fun e w' => ∃ v', e = .returned v' ∧ w'.ownsRow w.heap.size 9 1 v' L.length (((pr L).map (·.1)).map Value.string) ∧ Below w.heap.size w w' := by
  obtain ⟨i0, hi, hz0, hz1, hz2⟩ := info_parts info_strK
  have hsm : L.length ≤ 4096 := by have := h.cap; have := h.big; omega
  have HP := Lib.hid (lpairs_any h)
  have hlen := pr_len L
  rw [← hlen] at HP hsm ⊢
  generalize pr L = A at HP hsm ⊢
  clear h hlen
  go_enter Try.func25, Try.ntmps25
  go_wp2_with (fail)
  refine HP.out.mono ?_
  rintro e w1 ⟨pv, rfl, hp1, hb1⟩
  obtain ⟨pa, pc, rfl, hpc⟩ := own_pairs hp1 rfl
  have HPC := Lib.hid hpc
  have HB1 := Lib.hid hb1
  have hz1' := hb1.size
  clear hp1 hpc hb1
  go_wp2_with (fail)
  go_loopw [3, 11] (fun l i wr => ∃ k : Nat, k ≤ A.length ∧ i = .int .i64 k ∧ Hid (wr.ownsRow w1.heap.size 9 1 l k (((A.take k).map (·.1)).map Value.string)) ∧ Below w1.heap.size w1 wr) (fun _ i _ => A.length - (intOf i).toNat)
  case atStart => exact ⟨0, Nat.zero_le _, rfl, World.ownsRow_nil _ _ _ _, Below.refl _ _⟩
  case round =>
    obtain ⟨k, hk, rfl, hrow, hb⟩ := hrel
    obtain ⟨la, lc, rfl⟩ := own_sliceR hrow.out
    have k0 : (0 : Int) ≤ k := by omega
    have kl : (A.length : Int) ≤ 4096 := by omega
    by_cases hlt : k < A.length
    · have k1 : (k : Int) < A.length := by omega
      obtain ⟨g, rfl, hg0, hg1, d1, d2⟩ := HPC.out k hlt
      have d1 := (hb.cell (p := ⟨g, k * 2, none⟩) hg1).trans d1
      have d2 := (hb.cell (p := ⟨g, k * 2 + 1, none⟩) hg1).trans d2
      have hnext : ((A.take (k + 1)).map (·.1)).map Value.string = ((A.take k).map (·.1)).map Value.string ++ [.string (A[k]'hlt).1] := by
        rw [List.take_add_one, List.getElem?_eq_getElem hlt, List.map_append, List.map_append]; rfl
      have HN := Lib.hid hnext
      have hrow2 := (hrow.out).alloc (.cells #[.string (A[k]'hlt).1, .int .i64 (A[k]'hlt).2] 83)
      have hb2 : Below w1.heap.size w1 (wr.alloc (.cells #[.string (A[k]'hlt).1, .int .i64 (A[k]'hlt).2] 83)) := hb.alloc hb.size _
      generalize (A[k]'hlt).1 = key at d1 HN hrow2 hb2
      generalize (A[k]'hlt).2 = val at d2 hrow2 hb2
      have hbz := hb2.size
      clear hnext
      go_wp2_with (at_builtin; refine wpList_append_own _ rfl (.tmp 15) (.tmp 18) 42 rfl w1.heap.size 9 i0 (.string ⟨#[]⟩) 1 16 Try.underlying42 hi hz0 hz1 hz2 rfl (by decide) (.slice la k lc) k (((A.take k).map (·.1)).map Value.string) rfl (hrow2.alloc _) ⟨_, 0, none⟩ 1 1 [.string key] rfl rfl (kcell_at _ _ _ (by simp)) (by simp [Value.oneCell']) (by unfold maxLen; omega) (by omega) (by simp at hbz ⊢; omega) ?_; intro v3 w3 hown3 hg3 _; have hb3 := after_append (w3 := w1) hrow2 hbz hb2 hg3; clear hg3)
      exact ⟨⟨k + 1, by omega, by go_num, by rw [HN.out]; exact hown3, hb3⟩, by first | (simp [intOf]; done) | (simp [intOf]; omega)⟩
    · go_wp2_with (fail)
      go_ret
      have hkk : A.take k = A := List.take_of_length_le (by omega)
      have hke : k = A.length := by omega
      subst hke
      rw [hkk] at hrow
      exact ⟨_, rfl, ownsRow_mono hrow.out hz1', HB1.out.trans (hb.mono hz1')⟩

set_option maxHeartbeats 1600000 in
theorem lget_nil (s : ByteArray) (w : World) : Calls Try.prog 42 #[.pointer none, .string s] w fun e w' => e = .returned (.tuple #[.int .i64 0, .bool false]) ∧ w' = w := by
  have HP := Lib.hid (peek_nil s w)
  go_enter Try.func42, Try.ntmps42
  go_wp2_with (fail)
  refine HP.out.mono ?_
  rintro e w1 ⟨rfl, rfl⟩
  go_wp2_with (fail)
  go_ret2
  exact ⟨rfl, rfl⟩
set_option maxHeartbeats 1600000 in
theorem lkeys_nil (w : World) : Calls Try.prog 25 #[.pointer none] w fun e w' => e = .returned (.slice none 0 0) ∧ w' = w := by
  go_enter Try.func25, Try.ntmps25
  go_wp2_with (fail)
  go_ret
  exact ⟨rfl, rfl⟩
set_option maxHeartbeats 1600000 in
theorem lfork_nil (w : World) : Calls Try.prog 26 #[.pointer none] w fun e w' => e = .returned (.pointer none) ∧ w' = w := by
  go_enter Try.func26, Try.ntmps26
  go_wp2_with (fail)
  go_ret
  exact ⟨rfl, rfl⟩
set_option maxHeartbeats 3200000 in
theorem ldrop_nil1 (s : ByteArray) (w : World) (b : Nat) (h : w.cell? ⟨b, 0, none⟩ = some (.string s)) :
    Calls Try.prog 65 #[.pointer none, .slice (some ⟨b, 0, none⟩) 1 1] w fun e w' => e = .returned (.int .i64 0) ∧ w' = w := by
  have HP := Lib.hid (peek_nil s w)
  go_enter Try.func65, Try.ntmps65
  go_wp2_with (fail)
  go_loop [5, 12] (fun n i => n = .int .i64 0 ∧ (i = .int .i64 0 ∨ i = .int .i64 1)) (fun _ i => 1 - (intOf i).toNat)
  case atStart => exact ⟨rfl, Or.inl rfl⟩
  case round =>
    obtain ⟨rfl, rfl | rfl⟩ := hrel
    · go_wp2_with (fail)
      refine HP.out.mono ?_
      rintro e w1 ⟨rfl, rfl⟩
      go_wp2_with (fail)
      exact ⟨⟨rfl, Or.inr rfl⟩, by simp [intOf]⟩
    · go_wp2_with (fail)
      go_ret
      exact ⟨rfl, rfl⟩
end Go.Proofs.Ytemlafbkkaloiaa

/- hot: what must be whatever is asked. -/
namespace Go.Proofs.Ytemlafbkkaloiaa
open Go.RowKit
set_option linter.unusedVariables false
set_option linter.unusedSimpArgs false

set_option maxHeartbeats 3200000 in
theorem hKept_any {w : World} {c : HotC} {s : HotV} (k : HotAt w c s) :
    Calls Try.prog 12 #[.pointer (some ⟨c.hb, 0, none⟩)] w fun e w' => ∃ a cap, e = .returned (.slice a s.L.length cap) ∧ w'.ownsRow w.heap.size 9 1 (.slice a s.L.length cap) s.L.length (((pr s.L).map (·.1)).map Value.string) ∧ Below w.heap.size w w' := by
  obtain ⟨_, _, _, _, _, c5, _⟩ := k.cells
  have HK := Lib.hid (lkeys_any k.lru)
  clear k
  go_enter Try.func12, Try.ntmps12
  go_wp2_with (fail)
  refine HK.out.mono ?_
  rintro e w1 ⟨v, rfl, h1, h2⟩
  go_wp2_with (fail)
  go_ret
  obtain ⟨a, cap, rfl⟩ : ∃ a cap, v = .slice a s.L.length cap := by
    rcases h1.2 with ⟨rfl, h0⟩ | ⟨g, cap, cur, rfl, _⟩
    · exact ⟨none, 0, by rw [h0]⟩
    · exact ⟨_, cap, rfl⟩
  exact ⟨a, cap, rfl, h1, h2⟩

theorem usedH_new {w w' : World} {R : HotS} {keys seed : Int} {c : HotC} {s : HotV} (h : NewHot w R keys seed w' c s) (at_ : Int) (key : ByteArray) : usedH c s at_ key = 0 := by
  rw [usedH_V]
  have : s.V key = none := by unfold HotV.V findW; rw [h.WS]; rfl
  rw [this, h.sn]
  exact est_nil (by show 1 ≤ (4 : Int); omega) key
theorem live_first {w w' : World} {c : HotC} {s : HotV} (h : NewHot w liveHot 1 7 w' c s) : lookHE s.last 0 liveXH 2 = 0 ∧ lookHB c s 0 liveXH 2 = true := by
  have e1 : lookHE s.last 0 liveXH 2 = 0 := by rw [h.last]; decide
  refine ⟨e1, ?_⟩
  unfold lookHB
  rw [e1, usedH_new h]
  obtain ⟨a', c', hR⟩ := h.R
  rw [hR, live_limit]
  decide
theorem live_second {w w' w2 : World} {c : HotC} {s s2 : HotV} (h : NewHot w liveHot 1 7 w' c s) (t : TakePost w' c s 0 liveXH 2 w2 s2) : lookHE s2.last 1 liveXH 1 = 0 ∧ lookHB c s2 1 liveXH 1 = false ∧ s2.L.length = 1 := by
  obtain ⟨hE, hB⟩ := live_first h
  have hl := (t.last hB).1
  have e1 : lookHE s2.last 1 liveXH 1 = 0 := by rw [hl]; decide
  have hv := t.vals hB liveXH
  have hn : s.V liveXH = none := by unfold HotV.V findW; rw [h.WS]; rfl
  rw [if_pos rfl, hn, usedH_new h] at hv
  refine ⟨e1, ?_, ?_⟩
  · unfold lookHB
    rw [e1, usedH_V, hv]
    obtain ⟨a', c', hR⟩ := h.R
    rw [hR, live_limit]
    show (decide ((0 : Int) = 0) && decide ((winC ((1 : Int) * 100000) 10 1 [⟨0, passH 0⟩, ⟨0, passH 2⟩]).p ≤ 2 - 1)) = false
    rw [winC_p]
    decide
  · have hr := t.rows hB
    rw [h.L] at hr
    have : (pr s2.L).length = 1 := by
      rw [hr]
      have hN : (c.N : Int) = 1 := h.N
      have hN : c.N = 1 := by omega
      rw [hN]
      decide
    rw [pr_len] at this
    exact this

set_option maxHeartbeats 6400000 in
set_option maxRecDepth 100000 in
theorem htlive_any (w : World) : Calls Try.prog 7 #[] w fun e w' => e = .returned (.bool true) ∧ Below w.heap.size w w' := by
  have HNW : Hid (Calls Try.prog 6 #[.agg #[.string ⟨#[97]⟩, .int .i64 0, .int .i64 2, .int .i64 1, .slice none 0 0], .int .i64 1, .int .u64 7] w _) := hnew_any liveHot (liveHot_ok w) 1 7 (by omega) (by omega)
  go_enter Try.func7, Try.ntmps7
  go_wp2_with (fail)
  refine HNW.out.mono ?_
  rintro e w1 ⟨hb1, _, hy⟩
  obtain ⟨c, s, rfl, h1⟩ := hy liveHot_new
  have HT := htake_any h1.hot 0 liveXH (by decide) 2
  rw [(live_first h1).1, (live_first h1).2] at HT
  unfold liveXH at HT
  have HT := Lib.hid HT
  have H1 := Lib.hid h1
  have HB1 := Lib.hid hb1
  clear hy h1 hb1 HNW
  go_wp2_with (fail)
  refine HT.out.mono ?_
  rintro e w2 ⟨s2, rfl, t2⟩
  obtain ⟨f1, f2, f3⟩ := live_second H1.out t2
  have HT2 := htake_any t2.hot 1 liveXH (by decide) 1
  rw [f1, f2] at HT2
  unfold liveXH at HT2
  have HT2 := Lib.hid HT2
  have hz1 := HB1.out.size
  have HB2 := Lib.hid (HB1.out.trans (t2.off.below (B := w.heap.size) hz1 (fun i hi h => by have := H1.out.own i h; omega)))
  have HOW := Lib.hid (show ∀ i, HOwn c s2 i → w.heap.size ≤ i from fun i hi => by
    rcases t2.own i hi with h | h
    · exact H1.out.own i h
    · omega)
  have HL2 := Lib.hid f3
  have HNO := Lib.hid (And.intro f1 f2)
  clear HT f1 f2 f3 t2 hz1
  go_wp2_with (fail)
  refine HT2.out.mono ?_
  rintro e w3 ⟨s3, rfl, t3⟩
  have h3 := t3.no HNO.out.1 HNO.out.2
  have HB3 := Lib.hid (HB2.out.trans (t3.off.below (B := w.heap.size) HB2.out.size (fun i hi h => by have := HOW.out i h; omega)))
  have HOT3 := Lib.hid t3.hot
  have hl3 : s3.L.length = 1 := by rw [h3]; exact HL2.out
  have HL3 := Lib.hid hl3
  have HLM := hLimit_any t3.hot ⟨#[120]⟩
  obtain ⟨a', c', hR⟩ := H1.out.R
  rw [hR, live_limit] at HLM
  have HLM := Lib.hid HLM
  clear hR hl3 h3 t3 HT2 HB2 HOW HL2 HNO HB1 H1
  go_wp2_with (fail)
  refine HLM.out.mono ?_
  rintro e w4 ⟨rfl, hb4⟩
  have HOT4 := Lib.hid (HOT3.out.below hb4)
  have HB4 := Lib.hid (HB3.out.trans (hb4.mono HB3.out.size))
  have HKP := hKept_any HOT4.out
  rw [HL3.out] at HKP
  have HKP := Lib.hid HKP
  clear HLM hb4 HOT3 HB3
  go_wp2_with (fail)
  refine HKP.out.mono ?_
  rintro e w5 ⟨a, cap, rfl, _, hb5⟩
  have HB5 := Lib.hid (HB4.out.trans (hb5.mono HB4.out.size))
  clear hb5 HKP
  go_wp2_with (fail)
  go_ret
  exact ⟨by rfl, HB5.out⟩
end Go.Proofs.Ytemlafbkkaloiaa

/- hot: how a setting is opened: a rule, how many keys, a seed; and how deeds lie. -/
namespace Go.Proofs.Ytemlafbkkaloiaa
open Go.ChangeShapes Go.WideShapes Go.ChangeAt Go.RowKit Go.Deep
set_option linter.unusedVariables false
set_option linter.unusedSimpArgs false

structure SetS where
  R : HotS
  keys : Int
  seed : Int
def SetS.cs (x : SetS) : Array Value := #[.string x.R.res, .int .i64 x.R.idx, .int .i64 x.R.cnt, .int .i64 x.R.secs, .slice x.R.ia x.R.il x.R.ic, .int .i64 x.keys, .int .u64 x.seed]
def SetS.v (x : SetS) : Value := .agg x.cs
structure SetAt (w : World) (x : SetS) : Prop where
  ok : HotOk w x.R
  s0 : 0 ≤ x.seed
  s1 : x.seed ≤ 18446744073709551615
theorem SetAt.below {w w' : World} {x : SetS} (h : SetAt w x) (hb : Below w.heap.size w w') : SetAt w' x := ⟨h.ok.below (Nat.le_refl _) hb, h.s0, h.s1⟩
theorem wf_u64 {n : Int} (h : (Lit.int .u64 n).wf = true) : 0 ≤ n ∧ n ≤ 18446744073709551615 := by
  simp only [Lit.wf, IntKind.min, IntKind.max, IntKind.signed, IntKind.bits, Bool.and_eq_true, decide_eq_true_eq] at h
  simpa using h
theorem some_of_get {α : Type} {xs : List α} {n k : Nat} (h : xs.length = n) (hk : k < n) : ∃ y, xs[k]? = some y := ⟨_, List.getElem?_eq_getElem (by omega)⟩

set_option maxRecDepth 100000 in
theorem open_setting {H : Type} {enc : TypeId × Value → H} {W : World} {spare : Nat → Bool} {held : Bool} {base b0 : Nat} {r : Reach} {v : Value} {d : DataW H} {p : List MemPlace}
    (hval : Value.okWide Try.prog W r b0 27 v) (hd : DataW.Trod enc Try.prog W base spare held 27 v d p) (hsz : Sz 27 d) :
    ∃ x : SetS, v = x.v ∧ SetAt W x := by
  obtain ⟨cs, rfl, hsz1⟩ := okWide_struct Try.underlying27 hval
  have hC : Try.prog.cellsOf 27 = 7 := by kernel_rfl
  have hCH : Try.prog.cellsOf 24 = 5 := by kernel_rfl
  have hC1 : Try.prog.cellsOf 3 = 1 := by kernel_rfl
  have hC2 : Try.prog.cellsOf 25 = 1 := by kernel_rfl
  have hC3 : Try.prog.cellsOf 9 = 1 := by kernel_rfl
  have hC4 : Try.prog.cellsOf 22 = 1 := by kernel_rfl
  rw [hC] at hsz1
  obtain ⟨u0, u1, u2, u3, u4, u5, u6, rfl⟩ : ∃ u0 u1 u2 u3 u4 u5 u6, cs = #[u0, u1, u2, u3, u4, u5, u6] := by
    refine ⟨cs[0], cs[1], cs[2], cs[3], cs[4], cs[5], cs[6], ?_⟩
    apply Array.ext_getElem?
    intro j
    match j with
    | 0 => simp [Array.getElem?_eq_getElem (show 0 < cs.size by omega)]
    | 1 => simp [Array.getElem?_eq_getElem (show 1 < cs.size by omega)]
    | 2 => simp [Array.getElem?_eq_getElem (show 2 < cs.size by omega)]
    | 3 => simp [Array.getElem?_eq_getElem (show 3 < cs.size by omega)]
    | 4 => simp [Array.getElem?_eq_getElem (show 4 < cs.size by omega)]
    | 5 => simp [Array.getElem?_eq_getElem (show 5 < cs.size by omega)]
    | 6 => simp [Array.getElem?_eq_getElem (show 6 < cs.size by omega)]
    | j + 7 => rw [Array.getElem?_eq_none (by omega), Array.getElem?_eq_none (by simp)]
  obtain ⟨fuel, hf⟩ := hd
  obtain ⟨xs, n, _, hye, _, hxs, hff⟩ := DataW.trod_struct Try.underlying27 hf
  have hxs : xs.length = 3 := hxs
  have e1 : d = .agg (xs.map (·.1)) := (Prod.mk.inj hye).1
  rw [e1] at hsz
  obtain ⟨y0, hy0⟩ := some_of_get (k := 0) hxs (by omega)
  obtain ⟨y1, hy1⟩ := some_of_get (k := 1) hxs (by omega)
  obtain ⟨y2, hy2⟩ := some_of_get (k := 2) hxs (by omega)
  have f0 : DataW.trod enc Try.prog W base spare held n 24 [u0, u1, u2, u3, u4] = some y0 := by
    have h : DataW.trod enc Try.prog W base spare held n 24 (List.take (Try.prog.cellsOf 24) (List.drop 0 [u0, u1, u2, u3, u4, u5, u6])) = some y0 := (hff 0 _ rfl).trans hy0
    rw [hCH] at h
    exact h
  have f1 : DataW.trod enc Try.prog W base spare held n 3 [u5] = some y1 := by
    have h : DataW.trod enc Try.prog W base spare held n 3 (List.take (Try.prog.cellsOf 3) (List.drop 5 [u0, u1, u2, u3, u4, u5, u6])) = some y1 := (hff 1 _ rfl).trans hy1
    rw [hC1] at h
    exact h
  have f2 : DataW.trod enc Try.prog W base spare held n 25 [u6] = some y2 := by
    have h : DataW.trod enc Try.prog W base spare held n 25 (List.take (Try.prog.cellsOf 25) (List.drop 6 [u0, u1, u2, u3, u4, u5, u6])) = some y2 := (hff 2 _ rfl).trans hy2
    rw [hC2] at h
    exact h
  have z0 : Sz 24 y0.1 := sz_field Try.underlying27 hsz (k := 0) rfl (d := y0.1) (by simp [hy0])
  obtain ⟨ys, n2, _, hye2, _, hys, hgg⟩ := DataW.trod_struct Try.underlying24 f0
  have hys : ys.length = 5 := hys
  have e2 : y0.1 = .agg (ys.map (·.1)) := by rw [hye2]
  rw [e2] at z0
  obtain ⟨q0, hq0⟩ := some_of_get (k := 0) hys (by omega)
  obtain ⟨q1, hq1⟩ := some_of_get (k := 1) hys (by omega)
  obtain ⟨q2, hq2⟩ := some_of_get (k := 2) hys (by omega)
  obtain ⟨q3, hq3⟩ := some_of_get (k := 3) hys (by omega)
  obtain ⟨q4, hq4⟩ := some_of_get (k := 4) hys (by omega)
  have g0 : DataW.trod enc Try.prog W base spare held n2 9 [u0] = some q0 := by
    have h : DataW.trod enc Try.prog W base spare held n2 9 (List.take (Try.prog.cellsOf 9) (List.drop 0 [u0, u1, u2, u3, u4])) = some q0 := (hgg 0 _ rfl).trans hq0
    rw [hC3] at h
    exact h
  have g1 : DataW.trod enc Try.prog W base spare held n2 3 [u1] = some q1 := by
    have h : DataW.trod enc Try.prog W base spare held n2 3 (List.take (Try.prog.cellsOf 3) (List.drop 1 [u0, u1, u2, u3, u4])) = some q1 := (hgg 1 _ rfl).trans hq1
    rw [hC1] at h
    exact h
  have g2 : DataW.trod enc Try.prog W base spare held n2 3 [u2] = some q2 := by
    have h : DataW.trod enc Try.prog W base spare held n2 3 (List.take (Try.prog.cellsOf 3) (List.drop 2 [u0, u1, u2, u3, u4])) = some q2 := (hgg 2 _ rfl).trans hq2
    rw [hC1] at h
    exact h
  have g3 : DataW.trod enc Try.prog W base spare held n2 3 [u3] = some q3 := by
    have h : DataW.trod enc Try.prog W base spare held n2 3 (List.take (Try.prog.cellsOf 3) (List.drop 3 [u0, u1, u2, u3, u4])) = some q3 := (hgg 3 _ rfl).trans hq3
    rw [hC1] at h
    exact h
  have g4 : DataW.trod enc Try.prog W base spare held n2 22 [u4] = some q4 := by
    have h : DataW.trod enc Try.prog W base spare held n2 22 (List.take (Try.prog.cellsOf 22) (List.drop 4 [u0, u1, u2, u3, u4])) = some q4 := (hgg 4 _ rfl).trans hq4
    rw [hC4] at h
    exact h
  have z4 : Sz 22 q4.1 := sz_field Try.underlying24 z0 (k := 4) rfl (d := q4.1) (by simp [hq4])
  obtain ⟨kv, k0⟩ := recs_strZ (v := u0) Try.underlying9 g0
  have k1 := (recs_int (k := .i64) (v := u1) Try.underlying3 g1).1
  have k2 := (recs_int (k := .i64) (v := u2) Try.underlying3 g2).1
  have k3 := (recs_int (k := .i64) (v := u3) Try.underlying3 g3).1
  have k5 := (recs_int (k := .i64) (v := u5) Try.underlying3 f1).1
  have k6 := (recs_int (k := .u64) (v := u6) Try.underlying25 f2)
  obtain ⟨a, l, c, items, rfl, h1, h2, h3, h4, h5, h6⟩ := read_items (v := u4) g4 z4
  rw [kv, k1, k2, k3, k5, k6.1]
  exact ⟨⟨⟨strOf u0, intOf u1, intOf u2, intOf u3, a, l, c, items⟩, intOf u5, intOf u6⟩, rfl, ⟨k0, h1, h3, h2, h4, h5, h6⟩, (wf_u64 k6.2).1, (wf_u64 k6.2).2⟩
end Go.Proofs.Ytemlafbkkaloiaa

/- HotLooks: a look tells what a taking does. -/
namespace Go.Proofs.Ytemlafbkkaloiaa
open Go.RowKit
set_option linter.unusedVariables false
set_option linter.unusedSimpArgs false

/-- Deeds that came in. -/
def DeedsH (w : World) (a : Option Addr) (len : Nat) (K A : Nat → Int) (S : Nat → ByteArray) (C : Nat → Int) : Prop :=
  len = 0 ∨ ∃ b off, a = some ⟨b, off, none⟩ ∧ b < w.heap.size ∧ ∀ j, j < len → w.cell? ⟨b, off + j * 4, none⟩ = some (.int .i64 (K j)) ∧ w.cell? ⟨b, off + j * 4 + 1, none⟩ = some (.int .i64 (A j)) ∧ w.cell? ⟨b, off + j * 4 + 2, none⟩ = some (.string (S j)) ∧ w.cell? ⟨b, off + j * 4 + 3, none⟩ = some (.int .i64 (C j)) ∧ (S j).size ≤ maxLen
theorem deedsH_of {w : World} {a : Option Addr} {len : Nat} {V : Nat → Nat → Value} (hr : RecsAt w a 4 len V)
    (h0 : ∀ j, j < len → V j 0 = .int .i64 (intOf (V j 0)) ∧ (Lit.int .i64 (intOf (V j 0))).wf = true) (h1 : ∀ j, j < len → V j 1 = .int .i64 (intOf (V j 1)) ∧ (Lit.int .i64 (intOf (V j 1))).wf = true)
    (h2 : ∀ j, j < len → V j 2 = .string (strOf (V j 2)) ∧ (strOf (V j 2)).size ≤ maxLen) (h3 : ∀ j, j < len → V j 3 = .int .i64 (intOf (V j 3)) ∧ (Lit.int .i64 (intOf (V j 3))).wf = true) :
    DeedsH w a len (fun j => intOf (V j 0)) (fun j => intOf (V j 1)) (fun j => strOf (V j 2)) (fun j => intOf (V j 3)) := by
  rcases hr with h | ⟨b, off, rfl, hb, hc⟩
  · exact Or.inl h
  · refine Or.inr ⟨b, off, rfl, hb, fun j hj => ?_⟩
    have c0 := hc j hj 0 (by omega)
    have c1 := hc j hj 1 (by omega)
    have c2 := hc j hj 2 (by omega)
    have c3 := hc j hj 3 (by omega)
    rw [(h0 j hj).1] at c0
    rw [(h1 j hj).1] at c1
    rw [(h2 j hj).1] at c2
    rw [(h3 j hj).1] at c3
    exact ⟨c0, c1, c2, c3, (h2 j hj).2⟩
theorem DeedsH.get {w : World} {a : Option Addr} {len : Nat} {K A : Nat → Int} {S : Nat → ByteArray} {C : Nat → Int} (h : DeedsH w a len K A S C) {j : Nat} (hj : j < len) : ∃ b off, a = some ⟨b, off, none⟩ ∧ b < w.heap.size ∧ w.cell? ⟨b, off + j * 4, none⟩ = some (.int .i64 (K j)) ∧ w.cell? ⟨b, off + j * 4 + 1, none⟩ = some (.int .i64 (A j)) ∧ w.cell? ⟨b, off + j * 4 + 2, none⟩ = some (.string (S j)) ∧ w.cell? ⟨b, off + j * 4 + 3, none⟩ = some (.int .i64 (C j)) ∧ (S j).size ≤ maxLen := by
  rcases h with h | ⟨b, off, e, hb, hc⟩
  · omega
  · exact ⟨b, off, e, hb, hc j hj⟩
/-- What stands between two rounds. -/
structure HtI (w wr : World) (c : HotC) (s : HotV) : Prop where
  hot : HotAt wr c s
  own : ∀ i, HOwn c s i → w.heap.size ≤ i
  bel : Below w.heap.size w wr
theorem HtI.below {w wr w' : World} {c : HotC} {s : HotV} (k : HtI w wr c s) (hb : Below wr.heap.size wr w') : HtI w w' c s := ⟨k.hot.below hb, k.own, k.bel.trans (hb.mono k.bel.size)⟩
theorem HtI.take {w wr w' : World} {c : HotC} {s s' : HotV} {at_ n : Int} {key : ByteArray} (k : HtI w wr c s) (t : TakePost wr c s at_ key n w' s') : HtI w w' c s' := by
  have hz := k.bel.size
  exact ⟨t.hot, fun i hi => by
    rcases t.own i hi with h | h
    · exact k.own i h
    · omega, k.bel.trans (t.off.below (B := w.heap.size) hz (fun i hi h => by have := k.own i h; omega))⟩
/-- New, from the box of a setting. -/
theorem hnew_set {w : World} (x : SetS) (h : SetAt w x) (o : Obj) : Calls Try.prog 6 #[.agg #[.string x.R.res, .int .i64 x.R.idx, .int .i64 x.R.cnt, .int .i64 x.R.secs, .slice x.R.ia x.R.il x.R.ic], .int .i64 x.keys, .int .u64 x.seed] (w.alloc o) fun e w' => Below w.heap.size w w' ∧ (newHE x.R x.keys ≠ 0 → e = .returned (.tuple #[.pointer none, .int .i64 (newHE x.R x.keys)])) ∧
      (newHE x.R x.keys = 0 → ∃ c s, e = .returned (.tuple #[.pointer (some ⟨c.hb, 0, none⟩), .int .i64 0]) ∧ HtI w w' c s ∧ NewHot (w.alloc o) x.R x.keys x.seed w' c s) := by
  have hb : Below w.heap.size w (w.alloc o) := (Below.refl _ _).alloc (Nat.le_refl _) _
  refine (hnew_any x.R (h.below hb).ok x.keys x.seed h.s0 h.s1).mono ?_
  rintro e w' ⟨h1, h2, h3⟩
  have hbb := hb.trans (h1.mono hb.size)
  refine ⟨hbb, h2, fun h0 => ?_⟩
  obtain ⟨c, s, rfl, hn⟩ := h3 h0
  exact ⟨c, s, rfl, ⟨hn.hot, fun i hi => by have := hn.own i hi; have := hb.size; omega, hbb⟩, hn⟩

set_option maxHeartbeats 6400000 in
set_option maxRecDepth 100000 in
theorem hotlooks_walk {w : World} (x : SetS) (hx : SetAt w x) (a : Option Addr) (len cap : Nat) (hm : len ≤ 140737488351232) (K A : Nat → Int) (S : Nat → ByteArray) (C : Nat → Int) (hd : DeedsH w a len K A S C) :
    Calls Try.prog 3 #[x.v, .slice a len cap] w fun e w' => e = .returned (.bool true) ∧ Below w.heap.size w w' := by
  have HD := Lib.hid hd
  have HNW := Lib.hid (hnew_set x hx (.cells x.cs 27))
  unfold SetS.cs at HNW
  unfold SetS.v SetS.cs
  have HLV := Lib.hid (fun (w : World) => htlive_any w)
  clear hd hx
  go_enter Try.func3, Try.ntmps3
  go_wp2_with (fail)
  refine HNW.out.mono ?_
  rintro e w1 ⟨hb1, hno, hyes⟩
  by_cases hE : newHE x.R x.keys = 0
  · obtain ⟨c, s, rfl, hi, _⟩ := hyes hE
    have HI := Lib.hid hi
    clear hno hyes hE hi hb1 HNW
    go_wp2_with (fail)
    go_loopw [7, 8, 9, 10, 11, 12, 13, 14] (fun v _ _ _ _ _ _ _ wr => ∃ (i : Nat) (s' : HotV), i ≤ len ∧ v = .int .i64 i ∧ Hid (HtI w wr c s')) (fun v _ _ _ _ _ _ _ _ => len - (intOf v).toNat)
    case atStart => exact ⟨0, s, Nat.zero_le _, rfl, HI⟩
    case round =>
      clear HI
      obtain ⟨i, s', hi, rfl, HI⟩ := hrel
      by_cases hlt : i < len ∧ i < 80
      · obtain ⟨hlt, h80⟩ := hlt
        obtain ⟨b, off, rfl, hbl, d0, d1, d2, d3, hsz⟩ := HD.out.get hlt
        have d0 := (HI.out.bel.cell (p := ⟨b, off + i * 4, none⟩) hbl).trans d0
        have d1 := (HI.out.bel.cell (p := ⟨b, off + i * 4 + 1, none⟩) hbl).trans d1
        have d2 := (HI.out.bel.cell (p := ⟨b, off + i * 4 + 2, none⟩) hbl).trans d2
        have d3 := (HI.out.bel.cell (p := ⟨b, off + i * 4 + 3, none⟩) hbl).trans d3
        generalize K i = k at *
        generalize A i = at_ at *
        generalize S i = key at *
        generalize C i = n at *
        have k0 : (0 : Int) ≤ i := by omega
        have k1 : (i : Int) < len := by omega
        have k2 : (i : Int) < 80 := by omega
        have hal : Below wr.heap.size wr (wr.alloc (.cells #[.int .i64 k, .int .i64 at_, .string key, .int .i64 n] 35)) := (Below.refl _ _).alloc (Nat.le_refl _) _
        have hbx := new_blockS wr (.cells #[.int .i64 k, .int .i64 at_, .string key, .int .i64 n] 35)
        have hzx : wr.heap.size < (wr.alloc (.cells #[.int .i64 k, .int .i64 at_, .string key, .int .i64 n] 35)).heap.size := by simp
        have HIA := Lib.hid (HI.out.below hal)
        have HLK := Lib.hid (hlook_any HIA.out.hot at_ key hsz n)
        have HBX := Lib.hid hbx
        have HZX := Lib.hid hzx
        have HSZ := Lib.hid hsz
        clear hal hbx hzx hsz
        go_wp2_with (fail)
        refine HLK.out.mono ?_
        rintro e w2 ⟨rfl, h2⟩
        have hb2 := (h2.block wr.heap.size HZX.out).trans HBX.out
        have c1 : w2.cell? ⟨wr.heap.size, 1, none⟩ = some (.int .i64 at_) := by simp only [World.cell?, hb2]; rfl
        have c2 : w2.cell? ⟨wr.heap.size, 2, none⟩ = some (.string key) := by simp only [World.cell?, hb2]; rfl
        have c3 : w2.cell? ⟨wr.heap.size, 3, none⟩ = some (.int .i64 n) := by simp only [World.cell?, hb2]; rfl
        have HI2 := Lib.hid (HIA.out.below h2)
        have HLK2 := Lib.hid (hlook_any HI2.out.hot at_ key HSZ.out n)
        have HBX2 := Lib.hid hb2
        have HZX2 := Lib.hid (Nat.lt_of_lt_of_le HZX.out h2.size)
        have HTK := Lib.hid (fun (w3 : World) (h : HotAt w3 c s') => htake_any h at_ key HSZ.out n)
        generalize lookHB c s' at_ key n = B at *
        generalize lookHE s'.last at_ key n = E at *
        clear h2 hb2 HLK HBX HZX HIA HI d0 d1 d2 d3
        go_wp2_with (fail)
        refine HLK2.out.mono ?_
        rintro e w3 ⟨rfl, h3⟩
        have hb3 := (h3.block wr.heap.size HZX2.out).trans HBX2.out
        have c1 : w3.cell? ⟨wr.heap.size, 1, none⟩ = some (.int .i64 at_) := by simp only [World.cell?, hb3]; rfl
        have c2 : w3.cell? ⟨wr.heap.size, 2, none⟩ = some (.string key) := by simp only [World.cell?, hb3]; rfl
        have c3 : w3.cell? ⟨wr.heap.size, 3, none⟩ = some (.int .i64 n) := by simp only [World.cell?, hb3]; rfl
        have HI3 := Lib.hid (HI2.out.below h3)
        clear h3 hb3 HLK2 HBX2 HZX2 HI2
        go_wp2_with (fail)
        refine (HTK.out _ HI3.out.hot).mono ?_
        rintro e w4 ⟨s4, rfl, t4⟩
        have HI4 := Lib.hid (HI3.out.take t4)
        clear t4 HI3 HTK c1 c2 c3
        go_wp2_with (fail)
        exact ⟨⟨i + 1, s4, by omega, by go_num, HI4⟩, by first | (simp [intOf]; done) | (simp [intOf]; omega)⟩
      · have HLV2 := Lib.hid (HLV.out wr)
        have HB := Lib.hid HI.out.bel
        clear HI HLV
        by_cases hA : i < len
        · have k1 : (i : Int) < len := by omega
          have k2 : ¬ (i : Int) < 80 := by omega
          go_wp2_with (fail)
          refine HLV2.out.mono ?_
          rintro e w2 ⟨rfl, h2⟩
          go_wp2_with (fail)
          go_ret
          exact ⟨rfl, HB.out.trans (h2.mono HB.out.size)⟩
        · have k1 : ¬ (i : Int) < len := by omega
          go_wp2_with (fail)
          refine HLV2.out.mono ?_
          rintro e w2 ⟨rfl, h2⟩
          go_wp2_with (fail)
          go_ret
          exact ⟨rfl, HB.out.trans (h2.mono HB.out.size)⟩
  · obtain rfl := hno hE
    have hne : (newHE x.R x.keys != 0) = true := by simpa using hE
    have HB := Lib.hid hb1
    generalize newHE x.R x.keys = E at *
    clear hno hyes hE hb1 HNW
    go_wp2_with (fail)
    refine (HLV.out _).mono ?_
    rintro e w2 ⟨rfl, h2⟩
    go_wp2_with (fail)
    go_ret
    exact ⟨by rfl, HB.out.trans (h2.mono HB.out.size)⟩
theorem hotlooks_law {w : World} (x : SetS) (hx : SetAt w x) (a : Option Addr) (len cap : Nat) (V : Nat → Nat → Value) (hm : len ≤ 140737488351232) (hr : RecsAt w a 4 len V) (hB : len * 40 ≤ 140737488351232)
    (h0 : ∀ j, j < len → V j 0 = .int .i64 (intOf (V j 0)) ∧ (Lit.int .i64 (intOf (V j 0))).wf = true) (h1 : ∀ j, j < len → V j 1 = .int .i64 (intOf (V j 1)) ∧ (Lit.int .i64 (intOf (V j 1))).wf = true)
    (h2 : ∀ j, j < len → V j 2 = .string (strOf (V j 2)) ∧ (strOf (V j 2)).size ≤ maxLen) (h3 : ∀ j, j < len → V j 3 = .int .i64 (intOf (V j 3)) ∧ (Lit.int .i64 (intOf (V j 3))).wf = true) :
    Calls Try.prog 3 #[x.v, .slice a len cap] w fun e w' => e = .returned (.bool true) ∧ Below w.heap.size w w' :=
  hotlooks_walk x hx a len cap hm _ _ _ _ (deedsH_of hr h0 h1 h2 h3)
end Go.Proofs.Ytemlafbkkaloiaa

/- hot, plain: what was taken is never more than what counts as used. -/
namespace Go.Proofs.Ytemlafbkkaloiaa
open Go.RowKit
set_option linter.unusedVariables false
set_option linter.unusedSimpArgs false

/-- A call that went through. -/
structure TkS where
  kind : Int
  at_ : Int
  key : ByteArray
  n : Int
def inB' (b at_ : Int) (key : ByteArray) (t : TkS) : Bool := decide (t.key = key) && decide (at_ / b - 10 < t.at_ / b)
def nearB' (b at_ : Int) (key : ByteArray) (t : TkS) : Bool := decide (t.key = key) && decide (at_ - t.at_ < 9 * b)
def sumTk (p : TkS → Bool) : List TkS → Int
  | [] => 0
  | t :: T => (if p t then t.n else 0) + sumTk p T
theorem sumTk_snoc (p : TkS → Bool) (t : TkS) : ∀ T : List TkS, sumTk p (T ++ [t]) = sumTk p T + if p t then t.n else 0
  | [] => by simp [sumTk]
  | x :: T => by rw [List.cons_append, sumTk, sumTk_snoc p t T, sumTk]; omega
theorem sumTk_mono {p q : TkS → Bool} : ∀ {T : List TkS}, (∀ t, t ∈ T → 0 ≤ t.n) → (∀ t, t ∈ T → p t = true → q t = true) → sumTk p T ≤ sumTk q T
  | [], _, _ => Int.le_refl _
  | t :: T, h, hpq => by
    have h1 := h t (by simp)
    have h2 := sumTk_mono (p := p) (q := q) (T := T) (fun y hy => h y (by simp [hy])) (fun y hy => hpq y (by simp [hy]))
    have h3 := hpq t (by simp)
    rw [sumTk, sumTk]
    cases hp : p t
    · rw [if_neg (by simp)]; split <;> omega
    · rw [h3 hp]; simp; omega
theorem sumTk_nonneg {p : TkS → Bool} : ∀ {T : List TkS}, (∀ t, t ∈ T → 0 ≤ t.n) → 0 ≤ sumTk p T
  | [], _ => Int.le_refl _
  | t :: T, h => by
    have h1 := h t (by simp)
    have h2 := sumTk_nonneg (p := p) (fun y (hy : y ∈ T) => h y (by simp [hy]))
    rw [sumTk]; split <;> omega
theorem sumTk_le {p : TkS → Bool} : ∀ {T : List TkS}, (∀ t, t ∈ T → 0 ≤ t.n ∧ t.n ≤ 1099511627776) → sumTk p T ≤ 1099511627776 * T.length
  | [], _ => by simp [sumTk]
  | t :: T, h => by
    have h1 := h t (by simp)
    have h2 := sumTk_le (p := p) (fun y (hy : y ∈ T) => h y (by simp [hy]))
    rw [sumTk, List.length_cons]; split <;> omega
theorem sumTk_zero {p : TkS → Bool} : ∀ {T : List TkS}, (∀ t, t ∈ T → p t = false) → sumTk p T = 0
  | [], _ => rfl
  | t :: T, h => by
    rw [sumTk, h t (by simp), sumTk_zero (fun y hy => h y (by simp [hy]))]; rfl
theorem sumTk_take {p : TkS → Bool} {T : List TkS} {k : Nat} {t : TkS} (h : T[k]? = some t) : sumTk p (T.take (k + 1)) = sumTk p (T.take k) + if p t then t.n else 0 := by
  rw [List.take_add_one, h]
  exact sumTk_snoc p t _
def notesK (T : List TkS) : List NoteS := T.map (fun t => ⟨t.at_, t.n, t.key⟩)
theorem sumP_K (p : NoteS → Bool) (q : TkS → Bool) (h : ∀ t : TkS, p ⟨t.at_, t.n, t.key⟩ = q t) : ∀ T : List TkS, sumP p (notesK T) = sumTk q T
  | [] => rfl
  | t :: T => by
    show (if p ⟨t.at_, t.n, t.key⟩ then t.n else 0) + sumP p (notesK T) = _
    rw [sumP_K p q h T, h t]; rfl
/-- What is so of a rule at work, of what went through. -/
structure InvB (c : HotC) (s : HotV) (T : List TkS) : Prop where
  few : T.length ≤ 80
  ok : ∀ t, t ∈ T → 0 ≤ t.at_ ∧ t.at_ ≤ s.last ∧ 1 ≤ t.n ∧ t.n ≤ 1099511627776
  sn : s.sn = notesK T
  win : ∀ key ns, s.V key = some ns → ∀ at_, s.last ≤ at_ → sumTk (inB' (c.R.secs * 100000) at_ key) T ≤ (winC (c.R.secs * 100000) 10 at_ ns).p
  near : ∀ key at_, s.last ≤ at_ → sumTk (nearB' (c.R.secs * 100000) at_ key) T ≤ limI c.R key
theorem InvB.nn {c : HotC} {s : HotV} {T : List TkS} (h : InvB c s T) : ∀ t, t ∈ T → 0 ≤ t.n := fun t ht => by have := (h.ok t ht).2.2.1; omega
theorem InvB.small {c : HotC} {s : HotV} {T : List TkS} (h : InvB c s T) (p : TkS → Bool) : sumTk p T ≤ 87960930222080 := by
  have h1 := sumTk_le (p := p) (T := T) (fun t ht => by have := h.ok t ht; omega)
  have := h.few
  omega
theorem begin_div {b t : Int} (hb : 0 < b) : beginS b t = b * (t / b) := by
  unfold beginS
  have := Int.mul_ediv_add_emod t b
  omega
theorem win_iff {b s t : Int} (hb : 0 < b) : (beginS b t - b * 10 < beginS b s) ↔ (t / b - 10 < s / b) := by
  rw [begin_div hb, begin_div hb]
  constructor
  · intro h
    have : b * (t / b - 10) < b * (s / b) := by rw [Int.mul_sub]; omega
    exact Int.lt_of_mul_lt_mul_left this (by omega)
  · intro h
    have := Int.mul_lt_mul_of_pos_left h hb
    rw [Int.mul_sub] at this
    omega
/-- What went through counts as used. -/
theorem InvB.used {c : HotC} {s : HotV} {T : List TkS} (h : InvB c s T) (hs : 1 ≤ c.R.secs) {at_ : Int} (hat : s.last ≤ at_) (key : ByteArray) : sumTk (inB' (c.R.secs * 100000) at_ key) T ≤ usedH c s at_ key := by
  rw [usedH_V]
  cases hv : s.V key with
  | some ns => exact h.win key ns hv at_ hat
  | none =>
    have hn : NonNeg s.sn := by
      rw [h.sn]
      intro x hx
      obtain ⟨t, ht, rfl⟩ := List.mem_map.1 hx
      exact h.nn t ht
    have h1 := own_le_est (h := c.sh) (b := c.R.secs * 100000) (D := ⟨0, at_, key, []⟩) hn
    have h2 : ownN c.sh (c.R.secs * 100000) ⟨0, at_, key, []⟩ s.sn = sumTk (inB' (c.R.secs * 100000) at_ key) T := by
      unfold ownN
      rw [h.sn, sumP_K (ownP c.sh (c.R.secs * 100000) ⟨0, at_, key, []⟩) (inB' (c.R.secs * 100000) at_ key) (fun t => by
        unfold ownP inB'
        show (decide (beginS (c.R.secs * 100000) at_ - c.R.secs * 1000000 < beginS (c.R.secs * 100000) t.at_) && decide (t.key = key)) = _
        rw [Bool.and_comm]
        congr 1
        rw [show c.R.secs * 1000000 = c.R.secs * 100000 * 10 by omega]
        exact decide_eq_decide.2 (win_iff (by omega)))]
      exact capS_small (by have := h.small (inB' (c.R.secs * 100000) at_ key); omega)
    rw [h2] at h1
    exact h1
theorem near_in {b at_ : Int} (hb : 0 < b) {key : ByteArray} {t : TkS} (h : nearB' b at_ key t = true) : inB' b at_ key t = true := by
  unfold nearB' at h
  unfold inB'
  simp only [Bool.and_eq_true, decide_eq_true_eq] at h ⊢
  refine ⟨h.1, ?_⟩
  have h1 : at_ - 9 * b < t.at_ := by omega
  have h2 : (at_ + (-9) * b) / b ≤ t.at_ / b := Int.ediv_le_ediv hb (by omega)
  rw [Int.add_mul_ediv_right _ _ (by omega)] at h2
  omega
theorem div_mono {b x y : Int} (hb : 0 < b) (h : x ≤ y) : x / b ≤ y / b := Int.ediv_le_ediv hb h
/-- Time goes on. -/
theorem InvB.later {c : HotC} {s : HotV} {T : List TkS} (h : InvB c s T) {at_ : Int} (hat : s.last ≤ at_) : InvB c { s with last := at_ } T :=
  ⟨h.few, fun t ht => by have := h.ok t ht; exact ⟨this.1, Int.le_trans this.2.1 hat, this.2.2⟩, h.sn, fun key ns hv q hq => h.win key ns hv q (Int.le_trans hat hq), fun key q hq => h.near key q (Int.le_trans hat hq)⟩
theorem InvB.start {c : HotC} {s : HotV} (h1 : s.WS = []) (h2 : s.sn = []) (h3 : hotE c.R = 0) : InvB c s [] :=
  ⟨by simp, by simp, h2, fun key ns hv => (by unfold HotV.V findW at hv; rw [h1] at hv; cases hv), fun key at_ _ => (limI_bd h3 key).1⟩
/-- One more went through. -/
theorem InvB.yes {w w' : World} {c : HotC} {s s' : HotV} {T : List TkS} {at_ n kind : Int} {key : ByteArray} (h : InvB c s T) (hs : 1 ≤ c.R.secs) (t : TakePost w c s at_ key n w' s') (hB : lookHB c s at_ key n = true) (hf : T.length < 80) : InvB c s' (T ++ [⟨kind, at_, key, n⟩]) := by
  have hE : lookHE s.last at_ key n = 0 := by
    unfold lookHB at hB
    simp only [Bool.and_eq_true, decide_eq_true_eq] at hB
    exact hB.1
  have hU : usedH c s at_ key ≤ limI c.R key - n := by
    unfold lookHB at hB
    simp only [Bool.and_eq_true, decide_eq_true_eq] at hB
    exact hB.2
  obtain ⟨⟨n0, n1⟩, hw⟩ := lookHE_ok hE
  obtain ⟨a0, a1, a2, _⟩ := hwE_ok hw
  obtain ⟨l1, l2⟩ := t.last hB
  have hb : 0 < c.R.secs * 100000 := by omega
  refine ⟨by rw [List.length_append]; simp; omega, fun x hx => ?_, ?_, fun q ns hv at' hat => ?_, fun q at' hat => ?_⟩
  · rcases List.mem_append.1 hx with hx | hx
    · have := h.ok x hx; rw [l1]; exact ⟨this.1, by omega, this.2.2⟩
    · obtain rfl := List.mem_singleton.1 hx
      exact ⟨a0, by rw [l1]; exact Int.le_refl _, n0, n1⟩
  · rw [t.sn hB, h.sn]; simp [notesK, newNotes]
  · rw [l1] at hat
    rw [t.vals hB] at hv
    rw [sumTk_snoc]
    dsimp only
    have hsm := h.small (inB' (c.R.secs * 100000) at' q)
    have hnn := sumTk_nonneg (p := inB' (c.R.secs * 100000) at' q) h.nn
    by_cases e : q = key
    · subst e
      rw [if_pos rfl] at hv
      injection hv with hv
      rw [← hv, winC_p, sumW_append]
      show _ ≤ capW (_ + _)
      have e2 : (sumW (fun x => decide (at' / (c.R.secs * 100000) - 10 < x.at_ / (c.R.secs * 100000))) (newW at_ [passH n])).p = if decide (at' / (c.R.secs * 100000) - 10 < at_ / (c.R.secs * 100000)) then n else 0 := by
        show (sumW _ [⟨at_, passH n⟩]).p = _
        rw [sumW_pH]
        exact Int.add_zero _
      have e3 : inB' (c.R.secs * 100000) at' q ⟨kind, at_, q, n⟩ = decide (at' / (c.R.secs * 100000) - 10 < at_ / (c.R.secs * 100000)) := by unfold inB'; simp
      rw [e2, e3]
      cases hV : s.V q with
      | some old =>
        have h1 := h.win q old hV at' (by omega)
        rw [winC_p] at h1
        have h2 : sumTk (inB' (c.R.secs * 100000) at' q) T ≤ (sumW (fun x => decide (at' / (c.R.secs * 100000) - 10 < x.at_ / (c.R.secs * 100000))) old).p := by
          unfold capW at h1; split at h1 <;> omega
        show _ ≤ capW ((sumW _ old).p + _)
        unfold capW
        split <;> split <;> omega
      | none =>
        show _ ≤ capW ((sumW _ (newW at_ [passH (usedH c s at_ q)])).p + _)
        have e4 : (sumW (fun x => decide (at' / (c.R.secs * 100000) - 10 < x.at_ / (c.R.secs * 100000))) (newW at_ [passH (usedH c s at_ q)])).p = if decide (at' / (c.R.secs * 100000) - 10 < at_ / (c.R.secs * 100000)) then usedH c s at_ q else 0 := by
          show (sumW _ [⟨at_, passH (usedH c s at_ q)⟩]).p = _
          rw [sumW_pH]
          exact Int.add_zero _
        rw [e4]
        by_cases hin : at' / (c.R.secs * 100000) - 10 < at_ / (c.R.secs * 100000)
        · rw [decide_eq_true hin]
          simp only [if_true]
          have h1 := h.used hs (at_ := at_) a2 q
          have h2 : sumTk (inB' (c.R.secs * 100000) at' q) T ≤ sumTk (inB' (c.R.secs * 100000) at_ q) T := sumTk_mono h.nn (fun x _ hx => by
            unfold inB' at hx ⊢
            simp only [Bool.and_eq_true, decide_eq_true_eq] at hx ⊢
            have := div_mono hb hat
            exact ⟨hx.1, by omega⟩)
          unfold capW
          split <;> omega
        · rw [decide_eq_false hin]
          have h2 : sumTk (inB' (c.R.secs * 100000) at' q) T = 0 := sumTk_zero (fun x hx => by
            unfold inB'
            have h3 := (h.ok x hx).2.1
            have h4 := div_mono hb (show x.at_ ≤ at_ by omega)
            rw [decide_eq_false (show ¬ at' / (c.R.secs * 100000) - 10 < x.at_ / (c.R.secs * 100000) by omega), Bool.and_false])
          rw [h2]
          simp [capW]
    · rw [if_neg e] at hv
      have e3 : inB' (c.R.secs * 100000) at' q ⟨kind, at_, key, n⟩ = false := by unfold inB'; simp; exact fun h => absurd h.symm e
      rw [e3]
      split at hv
      · cases hv
      · have := h.win q ns hv at' (by omega)
        simpa using this
  · rw [l1] at hat
    rw [sumTk_snoc]
    dsimp only
    by_cases e : q = key
    · subst e
      have h1 := h.used hs (at_ := at_) a2 q
      have h2 : sumTk (nearB' (c.R.secs * 100000) at' q) T ≤ sumTk (inB' (c.R.secs * 100000) at_ q) T := sumTk_mono h.nn (fun x _ hx => near_in hb (by
        unfold nearB' at hx ⊢
        simp only [Bool.and_eq_true, decide_eq_true_eq] at hx ⊢
        exact ⟨hx.1, by omega⟩))
      split <;> omega
    · have e3 : nearB' (c.R.secs * 100000) at' q ⟨kind, at_, key, n⟩ = false := by unfold nearB'; simp; exact fun h => absurd h.symm e
      rw [e3]
      have := h.near q at' (by omega)
      simpa using this
end Go.Proofs.Ytemlafbkkaloiaa
