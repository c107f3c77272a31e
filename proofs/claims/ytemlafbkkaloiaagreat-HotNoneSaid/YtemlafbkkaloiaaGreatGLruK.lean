/- Texts of one chain, one behind the other: LruK, LruY, LruFk, LruDo. -/
import Derived.OwnWalk
import Derived.Test.YtemlafbkkaloiaaGreatGLruQ
import Derived.Test.YtemlafbkkaloiaaGreatGLruR
import Derived.Test.YtemlafbkkaloiaaGreatGLruV

/- lru: the walk of LruKeeps. -/
namespace Go.Proofs.YtemlafbkkaloiaaGreat
open Go.RowKit
set_option linter.unusedVariables false
set_option linter.unusedSimpArgs false

/-- An own row of texts, read. -/
theorem StrsAt.own {w : World} {base : Nat} {v : Value} {n : Nat} {ss : List ByteArray} (h : w.ownsRow base 9 1 v n (ss.map Value.string)) : ∃ a cap, v = .slice a n cap ∧ StrsAt w a ss ∧ n = ss.length := by
  obtain ⟨h1, h2⟩ := h
  have hn : n = ss.length := by simpa using h1.symm
  rcases h2 with ⟨rfl, rfl⟩ | ⟨g, cap, cur, rfl, hb, hg, hnc, hcm, hcs, htake⟩
  · exact ⟨none, 0, rfl, Or.inl (by cases ss; rfl; simp at hn), hn⟩
  · refine ⟨_, cap, rfl, Or.inr ⟨g, 0, rfl, (Array.getElem?_eq_some_iff.1 hg).1, fun j hj => ?_⟩, hn⟩
    have := World.ownsRow.cells (w := w) (base := base) (e := 9) (size := 1) (n := n) (xs := ss.map Value.string) ⟨h1, Or.inr ⟨g, cap, cur, rfl, hb, hg, hnc, hcm, hcs, htake⟩⟩ (g := g) rfl j (.string (ss.getD j ⟨#[]⟩)) (by simp [hj, List.getD])
    simpa [WideShapes.add_plain] using this


theorem below_drewFK {B : Nat} {a w : World} (h : Below B a w) (n : Nat) : Below B a (w.drewN n) := by
  induction n with
  | zero => exact h
  | succ n ih => exact ih.drew
theorem toList_injK {a b : ByteArray} (h : a.toList = b.toList) : a = b := by
  rw [ByteArray.toList_eq, ByteArray.toList_eq] at h
  rcases a with ⟨⟨l⟩⟩; rcases b with ⟨⟨l'⟩⟩; simpa using h

/-- Keys seen so far, at the place c. -/
def seenK (ks : List ByteArray) (i c : Nat) : List KV := ded ((zs ks i).take (i - c))
theorem seenK_next {ks : List ByteArray} {i c : Nat} (hc : c < i) : seenK ks i c = if inK (seenK ks i (c + 1)) (ks.getD c ⟨#[]⟩) then seenK ks i (c + 1) else seenK ks i (c + 1) ++ [(ks.getD c ⟨#[]⟩, (c : Int))] := by
  have hz := zs_get ks i (i - (c + 1)) (by omega)
  rw [show i - 1 - (i - (c + 1)) = c by omega] at hz
  have ht : (zs ks i).take (i - c) = (zs ks i).take (i - (c + 1)) ++ [(ks.getD c ⟨#[]⟩, (c : Int))] := by
    rw [show i - c = (i - (c + 1)) + 1 by omega, List.take_add_one, hz]; rfl
  unfold seenK
  rw [ht, ded_snoc]
theorem seenK_held {n : Nat} {A : List KV} {ks : List ByteArray} {i c : Nat} (hc : c < i) (h : A.reverse = (ded (zs ks i)).take n) (hnew : inK (seenK ks i (c + 1)) (ks.getD c ⟨#[]⟩) = false) (hroom : (seenK ks i (c + 1)).length < n) :
    hasA A (ks.getD c ⟨#[]⟩) = true ∧ valA A (ks.getD c ⟨#[]⟩) = (c : Int) := by
  have := held_there (n := n) (A := A) (ks := ks) (i := i) (j := i - (c + 1)) (by omega) h
  rw [show i - 1 - (i - (c + 1)) = c by omega] at this
  exact this hnew hroom
theorem seenK_start (ks : List ByteArray) (i : Nat) : seenK ks i i = [] := by simp [seenK, ded]
theorem seenK_le (ks : List ByteArray) (i c : Nat) : (seenK ks i c).length ≤ i := by
  have key : ∀ Z : List KV, (ded Z).length ≤ Z.length := by
    intro Z
    induction Z with
    | nil => simp [ded]
    | cons x Z ih => simp only [ded, List.length_cons]; have := List.length_filter_le (fun p : KV => !decide (p.1 = x.1)) (ded Z); omega
  have h := key ((zs ks i).take (i - c))
  rw [List.length_take, zs_len] at h
  unfold seenK
  omega
def stK (D : List KV) : List ByteArray := D.map (·.1)
theorem stK_len (D : List KV) : (stK D).length = D.length := by simp [stK]
theorem inK_take (D : List KV) (s : ByteArray) {q : Nat} (hq : q < D.length) : inK (D.take (q + 1)) s = (inK (D.take q) s || ((stK D).getD q ⟨#[]⟩).toList == s.toList) := by
  rw [List.take_add_one, inK, List.any_append]
  have : D[q]? = some D[q] := List.getElem?_eq_getElem hq
  rw [this]
  simp only [Option.toList_some, List.any_cons, List.any_nil, Bool.or_false]
  have e : (stK D).getD q ⟨#[]⟩ = D[q].1 := by simp [stK, List.getD, hq]
  rw [e]
  have e2 : decide (D[q].1 = s) = (D[q].1.toList == s.toList) := by
    by_cases h : D[q].1 = s
    · simp [h]
    · have : D[q].1.toList ≠ s.toList := fun e => h (toList_injK e)
      simp [h, this]
  rw [e2]; rfl


end Go.Proofs.YtemlafbkkaloiaaGreat

/- lru: Keys and Fork; sameTexts; nil ones. -/
namespace Go.Proofs.YtemlafbkkaloiaaGreat
open Go.RowKit
set_option linter.unusedVariables false
set_option linter.unusedSimpArgs false

theorem kcell_at (w : World) (u : Value) (t : TypeId) {b : Nat} (hb : b = w.heap.size) : ∀ j x, ([u] : List Value)[j]? = some x → (w.alloc (.cells #[u] t)).cell? ((⟨b, 0, none⟩ : Addr).add j) = some x := by
  subst hb
  exact kcell_one w u t

/-- Pairs in an own row, read. -/
theorem own_pairs {w : World} {base : Nat} {e : TypeId} {v : Value} {n : Nat} {A : List (ByteArray × Int)} (h : w.ownsRow base e 2 v n (flatP A)) (hn : n = A.length) :
    ∃ a cap, v = .slice a n cap ∧ ∀ k (hk : k < A.length), ∃ g, a = some ⟨g, 0, none⟩ ∧ base ≤ g ∧ g < w.heap.size ∧ w.cell? ⟨g, k * 2, none⟩ = some (.string (A[k]'hk).1) ∧ w.cell? ⟨g, k * 2 + 1, none⟩ = some (.int .i64 (A[k]'hk).2) := by
  obtain ⟨h1, h2⟩ := h
  rcases h2 with ⟨rfl, h2⟩ | ⟨g, cap, cur, rfl, hb, hg, hnc, hcm, hcs, htake⟩
  · exact ⟨none, 0, by rw [h2], fun k hk => by omega⟩
  · refine ⟨some ⟨g, 0, none⟩, cap, rfl, fun k hk => ⟨g, rfl, hb, (Array.getElem?_eq_some_iff.1 hg).1, ?_⟩⟩
    have hc := World.ownsRow.cells (w := w) (base := base) (e := e) (size := 2) (n := n) (xs := flatP A) ⟨h1, Or.inr ⟨g, cap, cur, rfl, hb, hg, hnc, hcm, hcs, htake⟩⟩ (g := g) rfl
    obtain ⟨e1, e2⟩ := flatP_get A k hk
    have r1 := hc _ _ e1
    have r2 := hc _ _ e2
    rw [WideShapes.add_plain, Nat.zero_add] at r1 r2
    exact ⟨r1, r2⟩

set_option maxHeartbeats 6400000 in
set_option maxRecDepth 100000 in
theorem lkeys_any {w : World} {m mp most : Nat} {L : List LNode} (h : Lru w m mp most L) :
    Calls Tryz.prog 36 #[.pointer (some ⟨m, 0, none⟩)] w fun e w' => ∃ v', e = .returned v' ∧ w'.ownsRow w.heap.size 9 1 v' L.length (((pr L).map (·.1)).map Value.string) ∧ Below w.heap.size w w' := by
  obtain ⟨i0, hi, hz0, hz1, hz2⟩ := info_parts info_strK
  have hsm : L.length ≤ 4096 := by have := h.cap; have := h.big; omega
  have HP := Lib.hid (lpairs_any h)
  have hlen := pr_len L
  rw [← hlen] at HP hsm ⊢
  generalize pr L = A at HP hsm ⊢
  clear h hlen
  go_enter Tryz.func36, Tryz.ntmps36
  go_wp2_with (fail)
  refine HP.out.mono ?_
  rintro e w1 ⟨pv, rfl, hp1, hb1⟩
  obtain ⟨pa, pc, rfl, hpc⟩ := own_pairs hp1 rfl
  have HPC := Lib.hid hpc
  have HB1 := Lib.hid hb1
  have hz1' := hb1.size
  clear hp1 hpc hb1
  go_wp2_with (fail)
  go_loopw [3, 11] (fun l i wr => ∃ k : Nat, k ≤ A.length ∧ i = .int .i64 k ∧ Hid (wr.ownsRow w1.heap.size 9 1 l k (((A.take k).map (·.1)).map Value.string)) ∧ Below w1.heap.size w1 wr) (fun _ i _ => A.length - (intOf i).toNat)
  case atStart => exact ⟨0, Nat.zero_le _, rfl, World.ownsRow_nil _ _ _ _, Below.refl _ _⟩
  case round =>
    obtain ⟨k, hk, rfl, hrow, hb⟩ := hrel
    obtain ⟨la, lc, rfl⟩ := own_sliceR hrow.out
    have k0 : (0 : Int) ≤ k := by omega
    have kl : (A.length : Int) ≤ 4096 := by omega
    by_cases hlt : k < A.length
    · have k1 : (k : Int) < A.length := by omega
      obtain ⟨g, rfl, hg0, hg1, d1, d2⟩ := HPC.out k hlt
      have d1 := (hb.cell (p := ⟨g, k * 2, none⟩) hg1).trans d1
      have d2 := (hb.cell (p := ⟨g, k * 2 + 1, none⟩) hg1).trans d2
      have hnext : ((A.take (k + 1)).map (·.1)).map Value.string = ((A.take k).map (·.1)).map Value.string ++ [.string (A[k]'hlt).1] := by
        rw [List.take_add_one, List.getElem?_eq_getElem hlt, List.map_append, List.map_append]; rfl
      have HN := Lib.hid hnext
      have hrow2 := (hrow.out).alloc (.cells #[.string (A[k]'hlt).1, .int .i64 (A[k]'hlt).2] 116)
      have hb2 : Below w1.heap.size w1 (wr.alloc (.cells #[.string (A[k]'hlt).1, .int .i64 (A[k]'hlt).2] 116)) := hb.alloc hb.size _
      generalize (A[k]'hlt).1 = key at d1 HN hrow2 hb2
      generalize (A[k]'hlt).2 = val at d2 hrow2 hb2
      have hbz := hb2.size
      clear hnext
      go_wp2_with (at_builtin; refine wpList_append_own _ rfl (.tmp 15) (.tmp 18) 43 rfl w1.heap.size 9 i0 (.string ⟨#[]⟩) 1 16 Tryz.underlying43 hi hz0 hz1 hz2 rfl (by decide) (.slice la k lc) k (((A.take k).map (·.1)).map Value.string) rfl (hrow2.alloc _) ⟨_, 0, none⟩ 1 1 [.string key] rfl rfl (kcell_at _ _ _ (by simp)) (by simp [Value.oneCell']) (by unfold maxLen; omega) (by omega) (by simp at hbz ⊢; omega) ?_; intro v3 w3 hown3 hg3 _; have hb3 := after_append (w3 := w1) hrow2 hbz hb2 hg3; clear hg3)
      exact ⟨⟨k + 1, by omega, by go_num, by rw [HN.out]; exact hown3, hb3⟩, by first | (simp [intOf]; done) | (simp [intOf]; omega)⟩
    · go_wp2_with (fail)
      go_ret
      have hkk : A.take k = A := List.take_of_length_le (by omega)
      have hke : k = A.length := by omega
      subst hke
      rw [hkk] at hrow
      exact ⟨_, rfl, ownsRow_mono hrow.out hz1', HB1.out.trans (hb.mono hz1')⟩

set_option maxHeartbeats 1600000 in
theorem lget_nil (s : ByteArray) (w : World) : Calls Tryz.prog 70 #[.pointer none, .string s] w fun e w' => e = .returned (.tuple #[.int .i64 0, .bool false]) ∧ w' = w := by
  have HP := Lib.hid (peek_nil s w)
  go_enter Tryz.func70, Tryz.ntmps70
  go_wp2_with (fail)
  refine HP.out.mono ?_
  rintro e w1 ⟨rfl, rfl⟩
  go_wp2_with (fail)
  go_ret2
  exact ⟨rfl, rfl⟩
set_option maxHeartbeats 1600000 in
theorem lkeys_nil (w : World) : Calls Tryz.prog 36 #[.pointer none] w fun e w' => e = .returned (.slice none 0 0) ∧ w' = w := by
  go_enter Tryz.func36, Tryz.ntmps36
  go_wp2_with (fail)
  go_ret
  exact ⟨rfl, rfl⟩
set_option maxHeartbeats 1600000 in
theorem lfork_nil (w : World) : Calls Tryz.prog 28 #[.pointer none] w fun e w' => e = .returned (.pointer none) ∧ w' = w := by
  go_enter Tryz.func28, Tryz.ntmps28
  go_wp2_with (fail)
  go_ret
  exact ⟨rfl, rfl⟩
set_option maxHeartbeats 1600000 in
theorem rfork_nil (w : World) : Calls Tryz.prog 31 #[.pointer none] w fun e w' => e = .returned (.pointer none) ∧ w' = w := by
  go_enter Tryz.func31, Tryz.ntmps31
  go_wp2_with (fail)
  go_ret
  exact ⟨rfl, rfl⟩
set_option maxHeartbeats 3200000 in
theorem ldrop_nil1 (s : ByteArray) (w : World) (b : Nat) (h : w.cell? ⟨b, 0, none⟩ = some (.string s)) :
    Calls Tryz.prog 96 #[.pointer none, .slice (some ⟨b, 0, none⟩) 1 1] w fun e w' => e = .returned (.int .i64 0) ∧ w' = w := by
  have HP := Lib.hid (peek_nil s w)
  go_enter Tryz.func96, Tryz.ntmps96
  go_wp2_with (fail)
  go_loop [5, 12] (fun n i => n = .int .i64 0 ∧ (i = .int .i64 0 ∨ i = .int .i64 1)) (fun _ i => 1 - (intOf i).toNat)
  case atStart => exact ⟨rfl, Or.inl rfl⟩
  case round =>
    obtain ⟨rfl, rfl | rfl⟩ := hrel
    · go_wp2_with (fail)
      refine HP.out.mono ?_
      rintro e w1 ⟨rfl, rfl⟩
      go_wp2_with (fail)
      exact ⟨⟨rfl, Or.inr rfl⟩, by simp [intOf]⟩
    · go_wp2_with (fail)
      go_ret
      exact ⟨rfl, rfl⟩
end Go.Proofs.YtemlafbkkaloiaaGreat

/- lru: Fork. -/
namespace Go.Proofs.YtemlafbkkaloiaaGreat
open Go.RowKit
set_option linter.unusedVariables false
set_option linter.unusedSimpArgs false

theorem put_take {most : Nat} {A : List (ByteArray × Int)} (hn : (A.map (·.1)).Nodup) (hl : A.length ≤ most) {k : Nat} (hk : k < A.length) : putA most (A.take k) (A[k]'hk).1 (A[k]'hk).2 = A.take (k + 1) := by
  have hno : hasA (A.take k) (A[k]'hk).1 = false := by
    simp only [hasA, List.any_eq_false, decide_eq_true_eq]
    intro p hp e
    obtain ⟨j, hj, rfl⟩ := List.getElem_of_mem hp
    have hjk : j < k := by simp at hj; omega
    rw [List.getElem_take] at e
    have : (A.map (·.1))[j]'(by simp; omega) = (A.map (·.1))[k]'(by simpa using hk) := by simpa using e
    have := (List.getElem_inj hn).1 this
    omega
  have hlen : (A.take k).length ≠ most := by simp; omega
  rw [putA, hno, if_neg (by simp), if_neg hlen, List.take_add_one, List.getElem?_eq_getElem hk]
  rfl

set_option maxHeartbeats 6400000 in
set_option maxRecDepth 100000 in
theorem lfork_any {w : World} {m mp most : Nat} {L : List LNode} (h : Lru w m mp most L) :
    Calls Tryz.prog 28 #[.pointer (some ⟨m, 0, none⟩)] w fun e w' => e = .returned (.pointer (some ⟨w.heap.size + 1, 0, none⟩)) ∧ ∃ L', Lru w' (w.heap.size + 1) w.heap.size most L' ∧ pr L' = pr L ∧ Below w.heap.size w w' ∧ (∀ b, Lown (w.heap.size + 1) w.heap.size L' b → w.heap.size ≤ b) := by
  have hsm : L.length ≤ 4096 := by have := h.cap; have := h.big; omega
  have c0 := h.body.c0
  have hbig := h.big
  have hcap := h.cap
  have HS := Lib.hid h.body.small
  have hnd : ((pr L).map (·.1)).Nodup := by have := h.body.keys; simpa [pr, List.map_map, Function.comp_def] using this
  have HND := Lib.hid hnd
  have HL := Lib.hid h
  clear h hnd
  go_enter Tryz.func28, Tryz.ntmps28
  go_wp2_with (fail)
  refine (lnew_any w most (by omega)).mono ?_
  rintro e w1 ⟨rfl, hf1, hb1, z1⟩
  rw [show Int.toNat (most : Int) = most from rfl] at hf1
  have HF1 := Lib.hid hf1
  have HB1 := Lib.hid hb1
  have hown := own_empty (m := w.heap.size + 1) (mp := w.heap.size) (base := w.heap.size) (by omega) (by omega)
  have HP := Lib.hid (lpairs_any (HL.out.below hb1))
  have hlen := pr_len L
  clear hf1 hb1
  rw [← hlen] at HP hsm hcap
  have hsz : ∀ p, p ∈ pr L → p.1.size ≤ maxLen := by
    intro p hp
    obtain ⟨x, hx, rfl⟩ := List.mem_map.1 hp
    exact HS.out x hx
  have HSZ := Lib.hid hsz
  generalize hA : pr L = A at HP hsm hcap HND HSZ ⊢
  have HA := Lib.hid hA
  clear hsz hlen hA
  generalize hF : w.heap.size + 1 = F at HF1 hown ⊢
  generalize hM : w.heap.size = M at HF1 HB1 hown ⊢
  have HZ := Lib.hid hM
  have hz1 : w1.heap.size = M + 2 := by omega
  have hFM : F = M + 1 := by omega
  have HFM := Lib.hid hFM
  clear hM hF z1 hFM
  go_wp2_with (fail)
  refine HP.out.mono ?_
  rintro e w2 ⟨pv, rfl, hp2, hb2⟩
  obtain ⟨pa, pc, rfl, hpc⟩ := own_pairs hp2 rfl
  have HPC := Lib.hid hpc
  have hz2 := hb2.size
  have HF2 := Lib.hid (HF1.out.below hb2)
  have HB2 := Lib.hid (HB1.out.trans (hb2.mono (by omega)))
  clear hp2 hpc hb2
  go_wp2_with (fail)
  go_loopw [20] (fun i wr => ∃ (k : Nat) (L' : List LNode), k ≤ A.length ∧ i = .int .i64 k ∧ Hid (Lru wr F M most L') ∧ Hid (pr L' = A.take k) ∧ Hid (∀ b, Lown F M L' b → M ≤ b ∧ (b < M + 2 ∨ w2.heap.size ≤ b)) ∧ Off (fun b => b = F ∨ b = M) w2 wr) (fun i _ => A.length - (intOf i).toNat)
  case atStart => exact ⟨0, [], Nat.zero_le _, rfl, HF2, by show pr [] = List.take 0 A; simp [pr], fun b hb => by
      have hFM := HFM.out
      rcases hb with e | e | e
      · omega
      · omega
      · simp at e, Off.refl _ _⟩
  case round =>
    obtain ⟨k, L', hk, rfl, HL', Hp, Hown, hoff⟩ := hrel
    have k0 : (0 : Int) ≤ k := by omega
    have kl : (A.length : Int) ≤ 4096 := by omega
    by_cases hlt : k < A.length
    · have k1 : (k : Int) < A.length := by omega
      obtain ⟨g, rfl, hg0, hg1, d1, d2⟩ := HPC.out k hlt
      have d1 := hoff.cell d1 (by show ¬ (g = F ∨ g = M); have := HFM.out; omega)
      have d2 := hoff.cell d2 (by show ¬ (g = F ∨ g = M); have := HFM.out; omega)
      have hnext := put_take HND.out hcap hlt
      have hks := HSZ.out _ (List.getElem_mem hlt)
      have HN := Lib.hid hnext
      have HKS := Lib.hid hks
      generalize (A[k]'hlt).1 = key at d1 HN HKS
      generalize (A[k]'hlt).2 = val at d2 HN
      have hoffz := hoff.size
      have hba : Below wr.heap.size wr (wr.alloc (.cells #[.string key, .int .i64 val] 116)) := (Below.refl _ _).alloc (Nat.le_refl _) _
      have HBA := Lib.hid hba
      have HLA := Lib.hid (HL'.out.below hba)
      clear hnext hks hba
      go_wp2_with (fail)
      refine (lput_any HLA.out HKS.out val).mono ?_
      rintro e w4 ⟨L4, rfl, hl4, hp4, ho4, hs4⟩
      have H4 := Lib.hid (And.intro hl4 (And.intro hp4 (And.intro ho4 hs4)))
      clear hl4 hp4 ho4 hs4
      go_wp2_with (fail)
      have za := HBA.out.size
      refine ⟨⟨k + 1, L4, by omega, by go_num, H4.out.1, ?_, fun b hb => ?_, ?_⟩, by first | (simp [intOf]; done) | (simp [intOf]; omega)⟩
      · have e : pr L4 = A.take (k + 1) := by rw [H4.out.2.1, Hp.out, HN.out]
        exact e
      · rcases H4.out.2.2.2 b hb with e | e
        · exact Hown.out b e
        · omega
      · refine (hoff.trans (Off.ofBelow (S := fun b => b = F ∨ b = M) HBA.out) (fun _ _ e => e)).trans H4.out.2.2.1 (fun i hi e => ?_)
        have := Hown.out i e
        have := HFM.out
        show i = F ∨ i = M
        omega
    · go_wp2_with (fail)
      go_ret
      have hkk : A.take k = A := List.take_of_length_le (by omega)
      have e : pr L' = pr L := by rw [Hp.out, hkk, HA.out]
      have hf := HFM.out
      subst hf
      have hz := HZ.out
      subst hz
      refine ⟨rfl, L', HL'.out, e, ?_, fun b hb => (Hown.out b hb).1⟩
      exact HB2.out.trans (hoff.below (by omega) (fun i hi e => by have := HFM.out; rcases e with e | e <;> omega))
end Go.Proofs.YtemlafbkkaloiaaGreat

/- lru: the map and the document's answer side by side; do. -/
namespace Go.Proofs.YtemlafbkkaloiaaGreat
open Go.RowKit
set_option linter.unusedVariables false
set_option linter.unusedSimpArgs false

theorem rput_any {w : World} {r most : Nat} {v : Value} {A : List (ByteArray × Int)} (h : RefM w r most v A) (hn : (A.map (·.1)).Nodup) (hle : A.length ≤ most) (s : ByteArray) (val : Int) :
    Calls Tryz.prog 48 #[.pointer (some ⟨r, 0, none⟩), .string s, .int .i64 val] w fun e w' => e = .returned (.tuple #[.string (goneA most A s), .bool (wentA most A s), .int .i64 0]) ∧ ∃ v', RefM w' r most v' (putA most A s val) ∧ Off (Rown r v) w w' ∧ (∀ b, Rown r v' b → Rown r v b ∨ w.heap.size ≤ b) := by
  cases hh : hasA A s
  · by_cases hf : A.length = most
    · cases A with
      | nil => have := h.big; simp at hf; omega
      | cons y C =>
        have e1 : goneA most (y :: C) s = y.1 := by rw [goneA, hh, if_neg (by simp), if_pos hf]; rfl
        have e2 : wentA most (y :: C) s = true := by rw [wentA, hh]; simpa using hf
        have e3 : putA most (y :: C) s val = C ++ [(s, val)] := by rw [putA, hh, if_neg (by simp), if_pos hf]; rfl
        rw [e1, e2, e3]
        exact rput_full h s val hh hf
    · have e1 : goneA most A s = ⟨#[]⟩ := by rw [goneA, hh, if_neg (by simp), if_neg hf]
      have e2 : wentA most A s = false := by rw [wentA, hh]; simpa using hf
      have e3 : putA most A s val = A ++ [(s, val)] := by rw [putA, hh, if_neg (by simp), if_neg hf]
      rw [e1, e2, e3]
      exact rput_new h s val hh hf hle
  · have e1 : goneA most A s = ⟨#[]⟩ := by rw [goneA, hh, if_pos rfl]
    have e2 : wentA most A s = false := by rw [wentA, hh]; rfl
    obtain ⟨X, y, C, rfl, rfl, hpl, hdel, _⟩ := plA_yes hn hh
    have e3 : putA most (X ++ y :: C) y.1 val = X ++ C ++ [(y.1, val)] := by rw [putA, hh, if_pos rfl, hdel]
    rw [e1, e2, e3]
    exact rput_old h val hpl

/-- The map and the document's answer, apart in memory, of the same pairs; S: their blocks. -/
def Both (w : World) (m r most : Nat) (A : List (ByteArray × Int)) (S : Nat → Prop) : Prop :=
  ∃ mp L v, Lru w m mp most L ∧ RefM w r most v A ∧ pr L = A ∧ (∀ b, Lown m mp L b → ¬ Rown r v b) ∧ (∀ b, S b ↔ Lown m mp L b ∨ Rown r v b)

theorem Both.off {w w' : World} {m r most : Nat} {A : List (ByteArray × Int)} {S S' : Nat → Prop} (h : Both w m r most A S) (ho : Off S' w w') (hS : ∀ b, S b → ¬ S' b) : Both w' m r most A S := by
  obtain ⟨mp, L, v, h1, h2, h3, h4, h5⟩ := h
  exact ⟨mp, L, v, h1.off ho (fun b hb => hS b ((h5 b).2 (Or.inl hb))), h2.off ho (fun b hb => hS b ((h5 b).2 (Or.inr hb))), h3, h4, h5⟩
theorem Both.below {w w' : World} {m r most : Nat} {A : List (ByteArray × Int)} {S : Nat → Prop} (h : Both w m r most A S) (hb : Below w.heap.size w w') : Both w' m r most A S := by
  obtain ⟨mp, L, v, h1, h2, h3, h4, h5⟩ := h
  exact ⟨mp, L, v, h1.below hb, h2.below hb, h3, h4, h5⟩
theorem Both.lt {w : World} {m r most : Nat} {A : List (ByteArray × Int)} {S : Nat → Prop} (h : Both w m r most A S) {b : Nat} (hb : S b) : b < w.heap.size := by
  obtain ⟨mp, L, v, h1, h2, h3, h4, h5⟩ := h
  rcases (h5 b).1 hb with h | h
  · exact h1.lt h
  · exact (h2.lt h).1

theorem pr_nodup {w : World} {m mp most : Nat} {L : List LNode} (h : LBody w m mp most L) : ((pr L).map (·.1)).Nodup := by
  have := h.keys; simpa [pr, List.map_map, Function.comp_def] using this

theorem both_step {w wa w2 w3 : World} {m r mp most : Nat} {L L2 : List LNode} {v v3 : Value} {A A3 : List (ByteArray × Int)} {S : Nat → Prop} (h1 : Lru w m mp most L) (h2 : RefM w r most v A) (h4 : ∀ b, Lown m mp L b → ¬ Rown r v b) (h5 : ∀ b, S b ↔ Lown m mp L b ∨ Rown r v b)
    (ha : Below w.heap.size w wa) (k1 : Lru w2 m mp most L2) (k2 : Off (Lown m mp L) wa w2) (k3 : ∀ b, Lown m mp L2 b → Lown m mp L b ∨ wa.heap.size ≤ b)
    (q1 : RefM w3 r most v3 A3) (q2 : Off (Rown r v) w2 w3) (q3 : ∀ b, Rown r v3 b → Rown r v b ∨ w2.heap.size ≤ b) (hp : pr L2 = A3) :
    ∃ S', Both w3 m r most A3 S' ∧ Off S w w3 ∧ (∀ b, S' b → S b ∨ w.heap.size ≤ b) := by
  have za := ha.size
  have z2 := k2.size
  have hl : ∀ b, Lown m mp L2 b → ¬ Rown r v b := fun b hb hr => by
    rcases k3 b hb with e | e
    · exact h4 b e hr
    · have := (h2.lt hr).1; omega
  refine ⟨fun b => Lown m mp L2 b ∨ Rown r v3 b, ⟨mp, L2, v3, k1.off q2 hl, q1, hp, fun b hb hr => ?_, fun b => Iff.rfl⟩, ?_, fun b hb => ?_⟩
  · rcases q3 b hr with e | e
    · exact hl b hb e
    · have := k1.lt hb; omega
  · exact ((Off.ofBelow (S := S) ha).trans k2 (fun i _ e => (h5 i).2 (Or.inl e))).trans q2 (fun i _ e => (h5 i).2 (Or.inr e))
  · rcases hb with hb | hb
    · rcases k3 b hb with e | e
      · exact Or.inl ((h5 b).2 (Or.inl e))
      · right; omega
    · rcases q3 b hb with e | e
      · exact Or.inl ((h5 b).2 (Or.inr e))
      · right; omega

theorem strs_off {S : Nat → Prop} {w w' : World} {a : Option Addr} {ss : List ByteArray} (h : StrsAt w a ss) (ho : Off S w w') (hs : ∀ b off, a = some ⟨b, off, none⟩ → ss ≠ [] → ¬ S b) : StrsAt w' a ss := by
  by_cases h0 : ss = []
  · exact Or.inl h0
  · rcases h with e | ⟨b, off, rfl, hb, hc⟩
    · exact Or.inl e
    · exact Or.inr ⟨b, off, rfl, Nat.lt_of_lt_of_le hb ho.size, fun j hj => ho.cell (hc j hj) (hs b off rfl h0)⟩

def deedV (kind : Int) (key : ByteArray) (val : Int) (a : Option Addr) (len cap : Nat) : Value := .agg #[.int .i64 kind, .string key, .int .i64 val, .slice a len cap]
/-- What a deed makes of the pairs. -/
def deedA (most : Nat) (A : List (ByteArray × Int)) (kind : Int) (key : ByteArray) (val : Int) (ss : List ByteArray) : List (ByteArray × Int) :=
  if kind = 0 then putA most A key val else if kind = 1 then getA A key else if kind = 2 then A else (dropA A ss).1

end Go.Proofs.YtemlafbkkaloiaaGreat
