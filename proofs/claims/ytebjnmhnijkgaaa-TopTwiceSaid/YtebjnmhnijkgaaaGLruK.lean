/- Texts of one chain, one behind the other: LruK, LruY, HtL, HtOp, HtM, HtN, TopTw. -/
import Derived.OwnWalk
import Derived.Test.YtebjnmhnijkgaaaGLruQ
import Derived.Test.YtebjnmhnijkgaaaGLruR
import Derived.Test.YtebjnmhnijkgaaaGLruV
import Derived.Test.YtebjnmhnijkgaaaGSkN

/- lru: the walk of LruKeeps. -/
namespace Go.Proofs.Ytebjnmhnijkgaaa
open Go.RowKit
set_option linter.unusedVariables false
set_option linter.unusedSimpArgs false

/-- An own row of texts, read. -/
theorem StrsAt.own {w : World} {base : Nat} {v : Value} {n : Nat} {ss : List ByteArray} (h : w.ownsRow base 9 1 v n (ss.map Value.string)) : ∃ a cap, v = .slice a n cap ∧ StrsAt w a ss ∧ n = ss.length := by
  obtain ⟨h1, h2⟩ := h
  have hn : n = ss.length := by simpa using h1.symm
  rcases h2 with ⟨rfl, rfl⟩ | ⟨g, cap, cur, rfl, hb, hg, hnc, hcm, hcs, htake⟩
  · exact ⟨none, 0, rfl, Or.inl (by cases ss; rfl; simp at hn), hn⟩
  · refine ⟨_, cap, rfl, Or.inr ⟨g, 0, rfl, (Array.getElem?_eq_some_iff.1 hg).1, fun j hj => ?_⟩, hn⟩
    have := World.ownsRow.cells (w := w) (base := base) (e := 9) (size := 1) (n := n) (xs := ss.map Value.string) ⟨h1, Or.inr ⟨g, cap, cur, rfl, hb, hg, hnc, hcm, hcs, htake⟩⟩ (g := g) rfl j (.string (ss.getD j ⟨#[]⟩)) (by simp [hj, List.getD])
    simpa [WideShapes.add_plain] using this


theorem below_drewFK {B : Nat} {a w : World} (h : Below B a w) (n : Nat) : Below B a (w.drewN n) := by
  induction n with
  | zero => exact h
  | succ n ih => exact ih.drew
theorem toList_injK {a b : ByteArray} (h : a.toList = b.toList) : a = b := by
  rw [ByteArray.toList_eq, ByteArray.toList_eq] at h
  rcases a with ⟨⟨l⟩⟩; rcases b with ⟨⟨l'⟩⟩; simpa using h

/-- Keys seen so far, at the place c. -/
def seenK (ks : List ByteArray) (i c : Nat) : List KV := ded ((zs ks i).take (i - c))
theorem seenK_next {ks : List ByteArray} {i c : Nat} (hc : c < i) : seenK ks i c = if inK (seenK ks i (c + 1)) (ks.getD c ⟨#[]⟩) then seenK ks i (c + 1) else seenK ks i (c + 1) ++ [(ks.getD c ⟨#[]⟩, (c : Int))] := by
  have hz := zs_get ks i (i - (c + 1)) (by omega)
  rw [show i - 1 - (i - (c + 1)) = c by omega] at hz
  have ht : (zs ks i).take (i - c) = (zs ks i).take (i - (c + 1)) ++ [(ks.getD c ⟨#[]⟩, (c : Int))] := by
    rw [show i - c = (i - (c + 1)) + 1 by omega, List.take_add_one, hz]; rfl
  unfold seenK
  rw [ht, ded_snoc]
theorem seenK_held {n : Nat} {A : List KV} {ks : List ByteArray} {i c : Nat} (hc : c < i) (h : A.reverse = (ded (zs ks i)).take n) (hnew : inK (seenK ks i (c + 1)) (ks.getD c ⟨#[]⟩) = false) (hroom : (seenK ks i (c + 1)).length < n) :
    hasA A (ks.getD c ⟨#[]⟩) = true ∧ valA A (ks.getD c ⟨#[]⟩) = (c : Int) := by
  have := held_there (n := n) (A := A) (ks := ks) (i := i) (j := i - (c + 1)) (by omega) h
  rw [show i - 1 - (i - (c + 1)) = c by omega] at this
  exact this hnew hroom
theorem seenK_start (ks : List ByteArray) (i : Nat) : seenK ks i i = [] := by simp [seenK, ded]
theorem seenK_le (ks : List ByteArray) (i c : Nat) : (seenK ks i c).length ≤ i := by
  have key : ∀ Z : List KV, (ded Z).length ≤ Z.length := by
    intro Z
    induction Z with
    | nil => simp [ded]
    | cons x Z ih => simp only [ded, List.length_cons]; have := List.length_filter_le (fun p : KV => !decide (p.1 = x.1)) (ded Z); omega
  have h := key ((zs ks i).take (i - c))
  rw [List.length_take, zs_len] at h
  unfold seenK
  omega
def stK (D : List KV) : List ByteArray := D.map (·.1)
theorem stK_len (D : List KV) : (stK D).length = D.length := by simp [stK]
theorem inK_take (D : List KV) (s : ByteArray) {q : Nat} (hq : q < D.length) : inK (D.take (q + 1)) s = (inK (D.take q) s || ((stK D).getD q ⟨#[]⟩).toList == s.toList) := by
  rw [List.take_add_one, inK, List.any_append]
  have : D[q]? = some D[q] := List.getElem?_eq_getElem hq
  rw [this]
  simp only [Option.toList_some, List.any_cons, List.any_nil, Bool.or_false]
  have e : (stK D).getD q ⟨#[]⟩ = D[q].1 := by simp [stK, List.getD, hq]
  rw [e]
  have e2 : decide (D[q].1 = s) = (D[q].1.toList == s.toList) := by
    by_cases h : D[q].1 = s
    · simp [h]
    · have : D[q].1.toList ≠ s.toList := fun e => h (toList_injK e)
      simp [h, this]
  rw [e2]; rfl


end Go.Proofs.Ytebjnmhnijkgaaa

/- lru: Keys and Fork; sameTexts; nil ones. -/
namespace Go.Proofs.Ytebjnmhnijkgaaa
open Go.RowKit
set_option linter.unusedVariables false
set_option linter.unusedSimpArgs false

theorem kcell_at (w : World) (u : Value) (t : TypeId) {b : Nat} (hb : b = w.heap.size) : ∀ j x, ([u] : List Value)[j]? = some x → (w.alloc (.cells #[u] t)).cell? ((⟨b, 0, none⟩ : Addr).add j) = some x := by
  subst hb
  exact kcell_one w u t

/-- Pairs in an own row, read. -/
theorem own_pairs {w : World} {base : Nat} {e : TypeId} {v : Value} {n : Nat} {A : List (ByteArray × Int)} (h : w.ownsRow base e 2 v n (flatP A)) (hn : n = A.length) :
    ∃ a cap, v = .slice a n cap ∧ ∀ k (hk : k < A.length), ∃ g, a = some ⟨g, 0, none⟩ ∧ base ≤ g ∧ g < w.heap.size ∧ w.cell? ⟨g, k * 2, none⟩ = some (.string (A[k]'hk).1) ∧ w.cell? ⟨g, k * 2 + 1, none⟩ = some (.int .i64 (A[k]'hk).2) := by
  obtain ⟨h1, h2⟩ := h
  rcases h2 with ⟨rfl, h2⟩ | ⟨g, cap, cur, rfl, hb, hg, hnc, hcm, hcs, htake⟩
  · exact ⟨none, 0, by rw [h2], fun k hk => by omega⟩
  · refine ⟨some ⟨g, 0, none⟩, cap, rfl, fun k hk => ⟨g, rfl, hb, (Array.getElem?_eq_some_iff.1 hg).1, ?_⟩⟩
    have hc := World.ownsRow.cells (w := w) (base := base) (e := e) (size := 2) (n := n) (xs := flatP A) ⟨h1, Or.inr ⟨g, cap, cur, rfl, hb, hg, hnc, hcm, hcs, htake⟩⟩ (g := g) rfl
    obtain ⟨e1, e2⟩ := flatP_get A k hk
    have r1 := hc _ _ e1
    have r2 := hc _ _ e2
    rw [WideShapes.add_plain, Nat.zero_add] at r1 r2
    exact ⟨r1, r2⟩

set_option maxHeartbeats 1600000 in
theorem lget_nil (s : ByteArray) (w : World) : Calls Try.prog 34 #[.pointer none, .string s] w fun e w' => e = .returned (.tuple #[.int .i64 0, .bool false]) ∧ w' = w := by
  have HP := Lib.hid (peek_nil s w)
  go_enter Try.func34, Try.ntmps34
  go_wp2_with (fail)
  refine HP.out.mono ?_
  rintro e w1 ⟨rfl, rfl⟩
  go_wp2_with (fail)
  go_ret2
  exact ⟨rfl, rfl⟩
set_option maxHeartbeats 3200000 in
theorem ldrop_nil1 (s : ByteArray) (w : World) (b : Nat) (h : w.cell? ⟨b, 0, none⟩ = some (.string s)) :
    Calls Try.prog 55 #[.pointer none, .slice (some ⟨b, 0, none⟩) 1 1] w fun e w' => e = .returned (.int .i64 0) ∧ w' = w := by
  have HP := Lib.hid (peek_nil s w)
  go_enter Try.func55, Try.ntmps55
  go_wp2_with (fail)
  go_loop [5, 12] (fun n i => n = .int .i64 0 ∧ (i = .int .i64 0 ∨ i = .int .i64 1)) (fun _ i => 1 - (intOf i).toNat)
  case atStart => exact ⟨rfl, Or.inl rfl⟩
  case round =>
    obtain ⟨rfl, rfl | rfl⟩ := hrel
    · go_wp2_with (fail)
      refine HP.out.mono ?_
      rintro e w1 ⟨rfl, rfl⟩
      go_wp2_with (fail)
      exact ⟨⟨rfl, Or.inr rfl⟩, by simp [intOf]⟩
    · go_wp2_with (fail)
      go_ret
      exact ⟨rfl, rfl⟩
end Go.Proofs.Ytebjnmhnijkgaaa

/- hot: what must be whatever is asked. -/
namespace Go.Proofs.Ytebjnmhnijkgaaa
open Go.RowKit
set_option linter.unusedVariables false
set_option linter.unusedSimpArgs false

theorem usedH_new {w w' : World} {R : HotS} {keys seed : Int} {c : HotC} {s : HotV} (h : NewHot w R keys seed w' c s) (at_ : Int) (key : ByteArray) : usedH c s at_ key = 0 := by
  rw [usedH_V]
  have : s.V key = none := by unfold HotV.V findW; rw [h.WS]; rfl
  rw [this, h.sn]
  exact est_nil (by show 1 ≤ (4 : Int); omega) key
theorem live_first {w w' : World} {c : HotC} {s : HotV} (h : NewHot w liveHot 1 7 w' c s) : lookHE s.last 0 liveXH 2 = 0 ∧ lookHB c s 0 liveXH 2 = true := by
  have e1 : lookHE s.last 0 liveXH 2 = 0 := by rw [h.last]; decide
  refine ⟨e1, ?_⟩
  unfold lookHB
  rw [e1, usedH_new h]
  obtain ⟨a', c', hR⟩ := h.R
  rw [hR, live_limit]
  decide
theorem live_second {w w' w2 : World} {c : HotC} {s s2 : HotV} (h : NewHot w liveHot 1 7 w' c s) (t : TakePost w' c s 0 liveXH 2 w2 s2) : lookHE s2.last 1 liveXH 1 = 0 ∧ lookHB c s2 1 liveXH 1 = false ∧ s2.L.length = 1 := by
  obtain ⟨hE, hB⟩ := live_first h
  have hl := (t.last hB).1
  have e1 : lookHE s2.last 1 liveXH 1 = 0 := by rw [hl]; decide
  have hv := t.vals hB liveXH
  have hn : s.V liveXH = none := by unfold HotV.V findW; rw [h.WS]; rfl
  rw [if_pos rfl, hn, usedH_new h] at hv
  refine ⟨e1, ?_, ?_⟩
  · unfold lookHB
    rw [e1, usedH_V, hv]
    obtain ⟨a', c', hR⟩ := h.R
    rw [hR, live_limit]
    show (decide ((0 : Int) = 0) && decide ((winC ((1 : Int) * 100000) 10 1 [⟨0, passH 0⟩, ⟨0, passH 2⟩]).p ≤ 2 - 1)) = false
    rw [winC_p]
    decide
  · have hr := t.rows hB
    rw [h.L] at hr
    have : (pr s2.L).length = 1 := by
      rw [hr]
      have hN : (c.N : Int) = 1 := h.N
      have hN : c.N = 1 := by omega
      rw [hN]
      decide
    rw [pr_len] at this
    exact this

end Go.Proofs.Ytebjnmhnijkgaaa

/- hot: how a setting is opened: a rule, how many keys, a seed; and how deeds lie. -/
namespace Go.Proofs.Ytebjnmhnijkgaaa
open Go.ChangeShapes Go.WideShapes Go.ChangeAt Go.RowKit Go.Deep
set_option linter.unusedVariables false
set_option linter.unusedSimpArgs false

structure SetS where
  R : HotS
  keys : Int
  seed : Int
def SetS.cs (x : SetS) : Array Value := #[.string x.R.res, .int .i64 x.R.idx, .int .i64 x.R.cnt, .int .i64 x.R.secs, .slice x.R.ia x.R.il x.R.ic, .int .i64 x.keys, .int .u64 x.seed]
def SetS.v (x : SetS) : Value := .agg x.cs
structure SetAt (w : World) (x : SetS) : Prop where
  ok : HotOk w x.R
  s0 : 0 ≤ x.seed
  s1 : x.seed ≤ 18446744073709551615
theorem SetAt.below {w w' : World} {x : SetS} (h : SetAt w x) (hb : Below w.heap.size w w') : SetAt w' x := ⟨h.ok.below (Nat.le_refl _) hb, h.s0, h.s1⟩
theorem wf_u64 {n : Int} (h : (Lit.int .u64 n).wf = true) : 0 ≤ n ∧ n ≤ 18446744073709551615 := by
  simp only [Lit.wf, IntKind.min, IntKind.max, IntKind.signed, IntKind.bits, Bool.and_eq_true, decide_eq_true_eq] at h
  simpa using h
theorem some_of_get {α : Type} {xs : List α} {n k : Nat} (h : xs.length = n) (hk : k < n) : ∃ y, xs[k]? = some y := ⟨_, List.getElem?_eq_getElem (by omega)⟩

end Go.Proofs.Ytebjnmhnijkgaaa

/- HotLooks: a look tells what a taking does. -/
namespace Go.Proofs.Ytebjnmhnijkgaaa
open Go.RowKit
set_option linter.unusedVariables false
set_option linter.unusedSimpArgs false

/-- Deeds that came in. -/
def DeedsH (w : World) (a : Option Addr) (len : Nat) (K A : Nat → Int) (S : Nat → ByteArray) (C : Nat → Int) : Prop :=
  len = 0 ∨ ∃ b off, a = some ⟨b, off, none⟩ ∧ b < w.heap.size ∧ ∀ j, j < len → w.cell? ⟨b, off + j * 4, none⟩ = some (.int .i64 (K j)) ∧ w.cell? ⟨b, off + j * 4 + 1, none⟩ = some (.int .i64 (A j)) ∧ w.cell? ⟨b, off + j * 4 + 2, none⟩ = some (.string (S j)) ∧ w.cell? ⟨b, off + j * 4 + 3, none⟩ = some (.int .i64 (C j)) ∧ (S j).size ≤ maxLen
theorem deedsH_of {w : World} {a : Option Addr} {len : Nat} {V : Nat → Nat → Value} (hr : RecsAt w a 4 len V)
    (h0 : ∀ j, j < len → V j 0 = .int .i64 (intOf (V j 0)) ∧ (Lit.int .i64 (intOf (V j 0))).wf = true) (h1 : ∀ j, j < len → V j 1 = .int .i64 (intOf (V j 1)) ∧ (Lit.int .i64 (intOf (V j 1))).wf = true)
    (h2 : ∀ j, j < len → V j 2 = .string (strOf (V j 2)) ∧ (strOf (V j 2)).size ≤ maxLen) (h3 : ∀ j, j < len → V j 3 = .int .i64 (intOf (V j 3)) ∧ (Lit.int .i64 (intOf (V j 3))).wf = true) :
    DeedsH w a len (fun j => intOf (V j 0)) (fun j => intOf (V j 1)) (fun j => strOf (V j 2)) (fun j => intOf (V j 3)) := by
  rcases hr with h | ⟨b, off, rfl, hb, hc⟩
  · exact Or.inl h
  · refine Or.inr ⟨b, off, rfl, hb, fun j hj => ?_⟩
    have c0 := hc j hj 0 (by omega)
    have c1 := hc j hj 1 (by omega)
    have c2 := hc j hj 2 (by omega)
    have c3 := hc j hj 3 (by omega)
    rw [(h0 j hj).1] at c0
    rw [(h1 j hj).1] at c1
    rw [(h2 j hj).1] at c2
    rw [(h3 j hj).1] at c3
    exact ⟨c0, c1, c2, c3, (h2 j hj).2⟩
theorem DeedsH.get {w : World} {a : Option Addr} {len : Nat} {K A : Nat → Int} {S : Nat → ByteArray} {C : Nat → Int} (h : DeedsH w a len K A S C) {j : Nat} (hj : j < len) : ∃ b off, a = some ⟨b, off, none⟩ ∧ b < w.heap.size ∧ w.cell? ⟨b, off + j * 4, none⟩ = some (.int .i64 (K j)) ∧ w.cell? ⟨b, off + j * 4 + 1, none⟩ = some (.int .i64 (A j)) ∧ w.cell? ⟨b, off + j * 4 + 2, none⟩ = some (.string (S j)) ∧ w.cell? ⟨b, off + j * 4 + 3, none⟩ = some (.int .i64 (C j)) ∧ (S j).size ≤ maxLen := by
  rcases h with h | ⟨b, off, e, hb, hc⟩
  · omega
  · exact ⟨b, off, e, hb, hc j hj⟩
/-- What stands between two rounds. -/
structure HtI (w wr : World) (c : HotC) (s : HotV) : Prop where
  hot : HotAt wr c s
  own : ∀ i, HOwn c s i → w.heap.size ≤ i
  bel : Below w.heap.size w wr
theorem HtI.below {w wr w' : World} {c : HotC} {s : HotV} (k : HtI w wr c s) (hb : Below wr.heap.size wr w') : HtI w w' c s := ⟨k.hot.below hb, k.own, k.bel.trans (hb.mono k.bel.size)⟩
theorem HtI.take {w wr w' : World} {c : HotC} {s s' : HotV} {at_ n : Int} {key : ByteArray} (k : HtI w wr c s) (t : TakePost wr c s at_ key n w' s') : HtI w w' c s' := by
  have hz := k.bel.size
  exact ⟨t.hot, fun i hi => by
    rcases t.own i hi with h | h
    · exact k.own i h
    · omega, k.bel.trans (t.off.below (B := w.heap.size) hz (fun i hi h => by have := k.own i h; omega))⟩
/-- New, from the box of a setting. -/
theorem hnew_set {w : World} (x : SetS) (h : SetAt w x) (o : Obj) : Calls Try.prog 4 #[.agg #[.string x.R.res, .int .i64 x.R.idx, .int .i64 x.R.cnt, .int .i64 x.R.secs, .slice x.R.ia x.R.il x.R.ic], .int .i64 x.keys, .int .u64 x.seed] (w.alloc o) fun e w' => Below w.heap.size w w' ∧ (newHE x.R x.keys ≠ 0 → e = .returned (.tuple #[.pointer none, .int .i64 (newHE x.R x.keys)])) ∧
      (newHE x.R x.keys = 0 → ∃ c s, e = .returned (.tuple #[.pointer (some ⟨c.hb, 0, none⟩), .int .i64 0]) ∧ HtI w w' c s ∧ NewHot (w.alloc o) x.R x.keys x.seed w' c s) := by
  have hb : Below w.heap.size w (w.alloc o) := (Below.refl _ _).alloc (Nat.le_refl _) _
  refine (hnew_any x.R (h.below hb).ok x.keys x.seed h.s0 h.s1).mono ?_
  rintro e w' ⟨h1, h2, h3⟩
  have hbb := hb.trans (h1.mono hb.size)
  refine ⟨hbb, h2, fun h0 => ?_⟩
  obtain ⟨c, s, rfl, hn⟩ := h3 h0
  exact ⟨c, s, rfl, ⟨hn.hot, fun i hi => by have := hn.own i hi; have := hb.size; omega, hbb⟩, hn⟩

end Go.Proofs.Ytebjnmhnijkgaaa

/- hot, plain: what was taken is never more than what counts as used. -/
namespace Go.Proofs.Ytebjnmhnijkgaaa
open Go.RowKit
set_option linter.unusedVariables false
set_option linter.unusedSimpArgs false

/-- A call that went through. -/
structure TkS where
  kind : Int
  at_ : Int
  key : ByteArray
  n : Int
def inB' (b at_ : Int) (key : ByteArray) (t : TkS) : Bool := decide (t.key = key) && decide (at_ / b - 10 < t.at_ / b)
def nearB' (b at_ : Int) (key : ByteArray) (t : TkS) : Bool := decide (t.key = key) && decide (at_ - t.at_ < 9 * b)
def sumTk (p : TkS → Bool) : List TkS → Int
  | [] => 0
  | t :: T => (if p t then t.n else 0) + sumTk p T
theorem sumTk_snoc (p : TkS → Bool) (t : TkS) : ∀ T : List TkS, sumTk p (T ++ [t]) = sumTk p T + if p t then t.n else 0
  | [] => by simp [sumTk]
  | x :: T => by rw [List.cons_append, sumTk, sumTk_snoc p t T, sumTk]; omega
theorem sumTk_mono {p q : TkS → Bool} : ∀ {T : List TkS}, (∀ t, t ∈ T → 0 ≤ t.n) → (∀ t, t ∈ T → p t = true → q t = true) → sumTk p T ≤ sumTk q T
  | [], _, _ => Int.le_refl _
  | t :: T, h, hpq => by
    have h1 := h t (by simp)
    have h2 := sumTk_mono (p := p) (q := q) (T := T) (fun y hy => h y (by simp [hy])) (fun y hy => hpq y (by simp [hy]))
    have h3 := hpq t (by simp)
    rw [sumTk, sumTk]
    cases hp : p t
    · rw [if_neg (by simp)]; split <;> omega
    · rw [h3 hp]; simp; omega
theorem sumTk_nonneg {p : TkS → Bool} : ∀ {T : List TkS}, (∀ t, t ∈ T → 0 ≤ t.n) → 0 ≤ sumTk p T
  | [], _ => Int.le_refl _
  | t :: T, h => by
    have h1 := h t (by simp)
    have h2 := sumTk_nonneg (p := p) (fun y (hy : y ∈ T) => h y (by simp [hy]))
    rw [sumTk]; split <;> omega
theorem sumTk_le {p : TkS → Bool} : ∀ {T : List TkS}, (∀ t, t ∈ T → 0 ≤ t.n ∧ t.n ≤ 1099511627776) → sumTk p T ≤ 1099511627776 * T.length
  | [], _ => by simp [sumTk]
  | t :: T, h => by
    have h1 := h t (by simp)
    have h2 := sumTk_le (p := p) (fun y (hy : y ∈ T) => h y (by simp [hy]))
    rw [sumTk, List.length_cons]; split <;> omega
theorem sumTk_zero {p : TkS → Bool} : ∀ {T : List TkS}, (∀ t, t ∈ T → p t = false) → sumTk p T = 0
  | [], _ => rfl
  | t :: T, h => by
    rw [sumTk, h t (by simp), sumTk_zero (fun y hy => h y (by simp [hy]))]; rfl
theorem sumTk_take {p : TkS → Bool} {T : List TkS} {k : Nat} {t : TkS} (h : T[k]? = some t) : sumTk p (T.take (k + 1)) = sumTk p (T.take k) + if p t then t.n else 0 := by
  rw [List.take_add_one, h]
  exact sumTk_snoc p t _
def notesK (T : List TkS) : List NoteS := T.map (fun t => ⟨t.at_, t.n, t.key⟩)
theorem sumP_K (p : NoteS → Bool) (q : TkS → Bool) (h : ∀ t : TkS, p ⟨t.at_, t.n, t.key⟩ = q t) : ∀ T : List TkS, sumP p (notesK T) = sumTk q T
  | [] => rfl
  | t :: T => by
    show (if p ⟨t.at_, t.n, t.key⟩ then t.n else 0) + sumP p (notesK T) = _
    rw [sumP_K p q h T, h t]; rfl
/-- What is so of a rule at work, of what went through. -/
structure InvB (c : HotC) (s : HotV) (T : List TkS) : Prop where
  few : T.length ≤ 100
  ok : ∀ t, t ∈ T → 0 ≤ t.at_ ∧ t.at_ ≤ s.last ∧ 1 ≤ t.n ∧ t.n ≤ 1099511627776
  sn : s.sn = notesK T
  win : ∀ key ns, s.V key = some ns → ∀ at_, s.last ≤ at_ → sumTk (inB' (c.R.secs * 100000) at_ key) T ≤ (winC (c.R.secs * 100000) 10 at_ ns).p
  near : ∀ key at_, s.last ≤ at_ → sumTk (nearB' (c.R.secs * 100000) at_ key) T ≤ limI c.R key
theorem InvB.nn {c : HotC} {s : HotV} {T : List TkS} (h : InvB c s T) : ∀ t, t ∈ T → 0 ≤ t.n := fun t ht => by have := (h.ok t ht).2.2.1; omega
theorem InvB.small {c : HotC} {s : HotV} {T : List TkS} (h : InvB c s T) (p : TkS → Bool) : sumTk p T ≤ 109951162777600 := by
  have h1 := sumTk_le (p := p) (T := T) (fun t ht => by have := h.ok t ht; omega)
  have := h.few
  omega
theorem begin_div {b t : Int} (hb : 0 < b) : beginS b t = b * (t / b) := by
  unfold beginS
  have := Int.mul_ediv_add_emod t b
  omega
theorem win_iff {b s t : Int} (hb : 0 < b) : (beginS b t - b * 10 < beginS b s) ↔ (t / b - 10 < s / b) := by
  rw [begin_div hb, begin_div hb]
  constructor
  · intro h
    have : b * (t / b - 10) < b * (s / b) := by rw [Int.mul_sub]; omega
    exact Int.lt_of_mul_lt_mul_left this (by omega)
  · intro h
    have := Int.mul_lt_mul_of_pos_left h hb
    rw [Int.mul_sub] at this
    omega
/-- What went through counts as used. -/
theorem InvB.used {c : HotC} {s : HotV} {T : List TkS} (h : InvB c s T) (hs : 1 ≤ c.R.secs) {at_ : Int} (hat : s.last ≤ at_) (key : ByteArray) : sumTk (inB' (c.R.secs * 100000) at_ key) T ≤ usedH c s at_ key := by
  rw [usedH_V]
  cases hv : s.V key with
  | some ns => exact h.win key ns hv at_ hat
  | none =>
    have hn : NonNeg s.sn := by
      rw [h.sn]
      intro x hx
      obtain ⟨t, ht, rfl⟩ := List.mem_map.1 hx
      exact h.nn t ht
    have h1 := own_le_est (h := c.sh) (b := c.R.secs * 100000) (D := ⟨0, at_, key, []⟩) hn
    have h2 : ownN c.sh (c.R.secs * 100000) ⟨0, at_, key, []⟩ s.sn = sumTk (inB' (c.R.secs * 100000) at_ key) T := by
      unfold ownN
      rw [h.sn, sumP_K (ownP c.sh (c.R.secs * 100000) ⟨0, at_, key, []⟩) (inB' (c.R.secs * 100000) at_ key) (fun t => by
        unfold ownP inB'
        show (decide (beginS (c.R.secs * 100000) at_ - c.R.secs * 1000000 < beginS (c.R.secs * 100000) t.at_) && decide (t.key = key)) = _
        rw [Bool.and_comm]
        congr 1
        rw [show c.R.secs * 1000000 = c.R.secs * 100000 * 10 by omega]
        exact decide_eq_decide.2 (win_iff (by omega)))]
      exact capS_small (by have := h.small (inB' (c.R.secs * 100000) at_ key); omega)
    rw [h2] at h1
    exact h1
theorem near_in {b at_ : Int} (hb : 0 < b) {key : ByteArray} {t : TkS} (h : nearB' b at_ key t = true) : inB' b at_ key t = true := by
  unfold nearB' at h
  unfold inB'
  simp only [Bool.and_eq_true, decide_eq_true_eq] at h ⊢
  refine ⟨h.1, ?_⟩
  have h1 : at_ - 9 * b < t.at_ := by omega
  have h2 : (at_ + (-9) * b) / b ≤ t.at_ / b := Int.ediv_le_ediv hb (by omega)
  rw [Int.add_mul_ediv_right _ _ (by omega)] at h2
  omega
theorem div_mono {b x y : Int} (hb : 0 < b) (h : x ≤ y) : x / b ≤ y / b := Int.ediv_le_ediv hb h
/-- Time goes on. -/
theorem InvB.later {c : HotC} {s : HotV} {T : List TkS} (h : InvB c s T) {at_ : Int} (hat : s.last ≤ at_) : InvB c { s with last := at_ } T :=
  ⟨h.few, fun t ht => by have := h.ok t ht; exact ⟨this.1, Int.le_trans this.2.1 hat, this.2.2⟩, h.sn, fun key ns hv q hq => h.win key ns hv q (Int.le_trans hat hq), fun key q hq => h.near key q (Int.le_trans hat hq)⟩
theorem InvB.start {c : HotC} {s : HotV} (h1 : s.WS = []) (h2 : s.sn = []) (h3 : hotE c.R = 0) : InvB c s [] :=
  ⟨by simp, by simp, h2, fun key ns hv => (by unfold HotV.V findW at hv; rw [h1] at hv; cases hv), fun key at_ _ => (limI_bd h3 key).1⟩
/-- One more went through. -/
theorem InvB.yes {w w' : World} {c : HotC} {s s' : HotV} {T : List TkS} {at_ n kind : Int} {key : ByteArray} (h : InvB c s T) (hs : 1 ≤ c.R.secs) (t : TakePost w c s at_ key n w' s') (hB : lookHB c s at_ key n = true) (hf : T.length < 100) : InvB c s' (T ++ [⟨kind, at_, key, n⟩]) := by
  have hE : lookHE s.last at_ key n = 0 := by
    unfold lookHB at hB
    simp only [Bool.and_eq_true, decide_eq_true_eq] at hB
    exact hB.1
  have hU : usedH c s at_ key ≤ limI c.R key - n := by
    unfold lookHB at hB
    simp only [Bool.and_eq_true, decide_eq_true_eq] at hB
    exact hB.2
  obtain ⟨⟨n0, n1⟩, hw⟩ := lookHE_ok hE
  obtain ⟨a0, a1, a2, _⟩ := hwE_ok hw
  obtain ⟨l1, l2⟩ := t.last hB
  have hb : 0 < c.R.secs * 100000 := by omega
  refine ⟨by rw [List.length_append]; simp; omega, fun x hx => ?_, ?_, fun q ns hv at' hat => ?_, fun q at' hat => ?_⟩
  · rcases List.mem_append.1 hx with hx | hx
    · have := h.ok x hx; rw [l1]; exact ⟨this.1, by omega, this.2.2⟩
    · obtain rfl := List.mem_singleton.1 hx
      exact ⟨a0, by rw [l1]; exact Int.le_refl _, n0, n1⟩
  · rw [t.sn hB, h.sn]; simp [notesK, newNotes]
  · rw [l1] at hat
    rw [t.vals hB] at hv
    rw [sumTk_snoc]
    dsimp only
    have hsm := h.small (inB' (c.R.secs * 100000) at' q)
    have hnn := sumTk_nonneg (p := inB' (c.R.secs * 100000) at' q) h.nn
    by_cases e : q = key
    · subst e
      rw [if_pos rfl] at hv
      injection hv with hv
      rw [← hv, winC_p, sumW_append]
      show _ ≤ capW (_ + _)
      have e2 : (sumW (fun x => decide (at' / (c.R.secs * 100000) - 10 < x.at_ / (c.R.secs * 100000))) (newW at_ [passH n])).p = if decide (at' / (c.R.secs * 100000) - 10 < at_ / (c.R.secs * 100000)) then n else 0 := by
        show (sumW _ [⟨at_, passH n⟩]).p = _
        rw [sumW_pH]
        exact Int.add_zero _
      have e3 : inB' (c.R.secs * 100000) at' q ⟨kind, at_, q, n⟩ = decide (at' / (c.R.secs * 100000) - 10 < at_ / (c.R.secs * 100000)) := by unfold inB'; simp
      rw [e2, e3]
      cases hV : s.V q with
      | some old =>
        have h1 := h.win q old hV at' (by omega)
        rw [winC_p] at h1
        have h2 : sumTk (inB' (c.R.secs * 100000) at' q) T ≤ (sumW (fun x => decide (at' / (c.R.secs * 100000) - 10 < x.at_ / (c.R.secs * 100000))) old).p := by
          unfold capW at h1; split at h1 <;> omega
        show _ ≤ capW ((sumW _ old).p + _)
        unfold capW
        split <;> split <;> omega
      | none =>
        show _ ≤ capW ((sumW _ (newW at_ [passH (usedH c s at_ q)])).p + _)
        have e4 : (sumW (fun x => decide (at' / (c.R.secs * 100000) - 10 < x.at_ / (c.R.secs * 100000))) (newW at_ [passH (usedH c s at_ q)])).p = if decide (at' / (c.R.secs * 100000) - 10 < at_ / (c.R.secs * 100000)) then usedH c s at_ q else 0 := by
          show (sumW _ [⟨at_, passH (usedH c s at_ q)⟩]).p = _
          rw [sumW_pH]
          exact Int.add_zero _
        rw [e4]
        by_cases hin : at' / (c.R.secs * 100000) - 10 < at_ / (c.R.secs * 100000)
        · rw [decide_eq_true hin]
          simp only [if_true]
          have h1 := h.used hs (at_ := at_) a2 q
          have h2 : sumTk (inB' (c.R.secs * 100000) at' q) T ≤ sumTk (inB' (c.R.secs * 100000) at_ q) T := sumTk_mono h.nn (fun x _ hx => by
            unfold inB' at hx ⊢
            simp only [Bool.and_eq_true, decide_eq_true_eq] at hx ⊢
            have := div_mono hb hat
            exact ⟨hx.1, by omega⟩)
          unfold capW
          split <;> omega
        · rw [decide_eq_false hin]
          have h2 : sumTk (inB' (c.R.secs * 100000) at' q) T = 0 := sumTk_zero (fun x hx => by
            unfold inB'
            have h3 := (h.ok x hx).2.1
            have h4 := div_mono hb (show x.at_ ≤ at_ by omega)
            rw [decide_eq_false (show ¬ at' / (c.R.secs * 100000) - 10 < x.at_ / (c.R.secs * 100000) by omega), Bool.and_false])
          rw [h2]
          simp [capW]
    · rw [if_neg e] at hv
      have e3 : inB' (c.R.secs * 100000) at' q ⟨kind, at_, key, n⟩ = false := by unfold inB'; simp; exact fun h => absurd h.symm e
      rw [e3]
      split at hv
      · cases hv
      · have := h.win q ns hv at' (by omega)
        simpa using this
  · rw [l1] at hat
    rw [sumTk_snoc]
    dsimp only
    by_cases e : q = key
    · subst e
      have h1 := h.used hs (at_ := at_) a2 q
      have h2 : sumTk (nearB' (c.R.secs * 100000) at' q) T ≤ sumTk (inB' (c.R.secs * 100000) at_ q) T := sumTk_mono h.nn (fun x _ hx => near_in hb (by
        unfold nearB' at hx ⊢
        simp only [Bool.and_eq_true, decide_eq_true_eq] at hx ⊢
        exact ⟨hx.1, by omega⟩))
      split <;> omega
    · have e3 : nearB' (c.R.secs * 100000) at' q ⟨kind, at_, key, n⟩ = false := by unfold nearB'; simp; exact fun h => absurd h.symm e
      rw [e3]
      have := h.near q at' (by omega)
      simpa using this
end Go.Proofs.Ytebjnmhnijkgaaa

/- TopTwice: of calls that a list lets pass, values that are hot are limited. -/
namespace Go.Proofs.Ytebjnmhnijkgaaa
open Go.RowKit
set_option linter.unusedVariables false
set_option linter.unusedSimpArgs false

def app1 : ByteArray := ⟨#[97, 112, 112, 49]⟩
def app2 : ByteArray := ⟨#[97, 112, 112, 50]⟩
def twR : HotS := ⟨⟨#[97]⟩, 0, 3, 1, none, 0, 0, []⟩
theorem twR_ok (w : World) : HotOk w twR := ⟨by decide, rfl, Nat.le_refl _, by decide, fun _ => ⟨rfl, rfl⟩, Or.inl rfl, by intro x hx; simp [twR] at hx⟩
theorem twR_new : newHE twR 2 = 0 := by decide
theorem tw_limit (a : Option Addr) (c : Nat) (k : ByteArray) : limI (twR.at a c) k = 3 := rfl
theorem tw_app1 : listB ⟨#[97]⟩ true [app1] app1 = true := by decide +kernel
theorem tw_app2 : listB ⟨#[97]⟩ true [app1] app2 = false := by decide +kernel
theorem tw_listE : listE ⟨#[97]⟩ [app1] = 0 := by decide +kernel
theorem tw_other {o : ByteArray} (h : listB ⟨#[97]⟩ true [app1] o = false) : (o.toList == []) = false ∧ (o.toList == [97, 112, 112, 49]) = false := by
  have h1 : app1.toList = [97, 112, 112, 49] := by decide +kernel
  unfold listB at h
  rw [tw_listE] at h
  simp only [decide_true, Bool.true_and, Bool.or_eq_false_iff] at h
  refine ⟨h.1, ?_⟩
  rw [beq_eq_false_iff_ne]
  intro e
  have e2 : o = app1 := by
    rw [← h1] at e
    rw [ByteArray.toList_eq, ByteArray.toList_eq] at e
    rcases o with ⟨⟨l⟩⟩
    unfold app1 at *
    simpa using e
  rw [e2] at h
  have h2 := h.2
  revert h2
  decide +kernel
def cntV (T : List TkS) (s : ByteArray) : Int := sumTk (fun t => decide (t.key = s)) T
theorem cntV_snoc (T : List TkS) (k s : ByteArray) : cntV (T ++ [⟨0, 0, k, 1⟩]) s = cntV T s + if k = s then 1 else 0 := by
  unfold cntV
  rw [sumTk_snoc]
  by_cases h : k = s <;> simp [h]
theorem all_in {b : Int} (hb : 0 < b) {T : List TkS} (h : ∀ t, t ∈ T → t.at_ = 0) (s : ByteArray) : sumTk (inB' b 0 s) T = cntV T s ∧ sumTk (nearB' b 0 s) T = cntV T s := by
  induction T with
  | nil => exact ⟨rfl, rfl⟩
  | cons t T ih =>
    obtain ⟨h1, h2⟩ := ih (fun x hx => h x (by simp [hx]))
    have h0 := h t (by simp)
    unfold cntV at *
    rw [sumTk, sumTk, sumTk, h1, h2]
    have e1 : inB' b 0 s t = decide (t.key = s) := by unfold inB'; rw [h0]; simp
    have e2 : nearB' b 0 s t = decide (t.key = s) := by unfold nearB'; rw [h0, decide_eq_true (show (0 : Int) - 0 < 9 * b by omega), Bool.and_true]
    rw [e1, e2]
    exact ⟨rfl, rfl⟩
/-- What stands between two rounds. -/
structure TtI (w wr : World) (c : HotC) (s : HotV) (T : List TkS) (mt gb lb : Nat) (F : Value → Option Value) (n : Nat) : Prop where
  hti : HtI w wr c s
  map : MapV wr 9 mt F n
  cnt : ∀ k : ByteArray, k.size ≤ maxLen → (F (.string k)).getD (.int .i64 0) = .int .i64 (cntV T k)
  few : n ≤ T.length
  inv : InvB c s T
  zero : ∀ t, t ∈ T → t.at_ = 0
  last : s.last = 0
  txt : wr.heap[gb]? = some (.cells #[.string app1] 9)
  box : wr.heap[lb]? = some (.cells #[.string ⟨#[97]⟩, .bool true, .slice (some ⟨gb, 0, none⟩) 1 1] 32)
  am : ¬ HOwn c s mt ∧ w.heap.size ≤ mt
  ag : ¬ HOwn c s gb ∧ gb ≠ mt
  al : ¬ HOwn c s lb ∧ lb ≠ mt
  ai : ∀ g off, c.R.ia = some ⟨g, off, none⟩ → g ≠ mt
variable {w wr w' : World} {c : HotC} {s s' : HotV} {T : List TkS} {mt gb lb : Nat} {F F' : Value → Option Value} {n n' : Nat}
theorem TtI.lts (k : TtI w wr c s T mt gb lb F n) : mt < wr.heap.size ∧ gb < wr.heap.size ∧ lb < wr.heap.size := ⟨k.map.lt, (Array.getElem?_eq_some_iff.1 k.txt).1, (Array.getElem?_eq_some_iff.1 k.box).1⟩
theorem TtI.below (k : TtI w wr c s T mt gb lb F n) (hb : Below wr.heap.size wr w') : TtI w w' c s T mt gb lb F n :=
  ⟨k.hti.below hb, k.map.below hb, k.cnt, k.few, k.inv, k.zero, k.last, (hb.block gb k.lts.2.1).trans k.txt, (hb.block lb k.lts.2.2).trans k.box, k.am, k.ag, k.al, k.ai⟩
/-- A taking that does not go through. -/
theorem TtI.takeNo {key : ByteArray} (k : TtI w wr c s T mt gb lb F n) (t : TakePost wr c s 0 key 1 w' s') (hE : lookHE s.last 0 key 1 = 0) (hB : lookHB c s 0 key 1 = false) : TtI w w' c s' T mt gb lb F n := by
  have h := t.no hE hB
  have hs : ∀ i, HOwn c s' i → HOwn c s i := fun i hi => by rw [h] at hi; exact hi
  refine ⟨k.hti.take t, k.map.kept (t.off.block mt k.lts.1 k.am.1), k.cnt, k.few, by rw [h]; exact k.inv.later (by rw [k.last]; exact Int.le_refl _), k.zero, by rw [h], (t.off.block gb k.lts.2.1 k.ag.1).trans k.txt, (t.off.block lb k.lts.2.2 k.al.1).trans k.box, ⟨fun hi => k.am.1 (hs _ hi), k.am.2⟩, ⟨fun hi => k.ag.1 (hs _ hi), k.ag.2⟩, ⟨fun hi => k.al.1 (hs _ hi), k.al.2⟩, k.ai⟩
theorem TtI.look (k : TtI w wr c s T mt gb lb F n) {q : ByteArray} (hq : q.size ≤ maxLen) : (Instr.lookup 34 (.map (some mt)) (.string q) false).run Try.prog wr = .ok (.int .i64 (cntV T q)) wr := by
  have h1 := k.map.look false strKeyed (show Try.prog.underlying 34 = some (.map 9 3) from by kernel_rfl) (zero_intS wr) (skeyOf hq)
  rw [if_neg (by simp), k.cnt q hq] at h1
  exact h1
/-- A taking that goes through, and is counted. -/
theorem TtI.takeYes {key : ByteArray} (hk : key.size ≤ maxLen) (k : TtI w wr c s T mt gb lb F n) (t : TakePost wr c s 0 key 1 w' s') (hB : lookHB c s 0 key 1 = true) (hs : 1 ≤ c.R.secs) (hf : T.length < 100) :
    (Instr.lookup 34 (.map (some mt)) (.string key) false).run Try.prog w' = .ok (.int .i64 (cntV T key)) w' ∧
    ∃ w2 F2 n2, (Instr.mapUpdate 34 (.map (some mt)) (.string key) (.int .i64 (cntV T key + 1))).run Try.prog w' = .ok () w2 ∧ TtI w w2 c s' (T ++ [⟨0, 0, key, 1⟩]) mt gb lb F2 n2 := by
  have hm := k.map.kept (t.off.block mt k.lts.1 k.am.1)
  have hu : Try.prog.underlying 34 = some (.map 9 3) := by kernel_rfl
  have h1 := hm.look false strKeyed hu (zero_intS w') (skeyOf hk)
  rw [if_neg (by simp), k.cnt key hk] at h1
  refine ⟨h1, ?_⟩
  obtain ⟨w2, hrun, hm2, hg, hz⟩ := hm.update strKeyed hu (by have := k.few; unfold maxLen; omega) (skeyOf hk) (.int .i64 (cntV T key + 1))
  have hti := k.hti.take t
  have hsz := t.off.size
  have notOwn : ∀ i, i < wr.heap.size → ¬ HOwn c s i → ¬ HOwn c s' i := fun i hi hn hi2 => by
    rcases t.own i hi2 with h | h
    · exact hn h
    · omega
  have hkeep : ∀ i, i < w'.heap.size → i ≠ mt → w2.heap[i]? = w'.heap[i]? := fun i hi hne => hg.block i hi (fun e => hne (by injection e))
  have htxt := (t.off.block gb k.lts.2.1 k.ag.1).trans k.txt
  have hbox := (t.off.block lb k.lts.2.2 k.al.1).trans k.box
  have hmt := notOwn mt k.lts.1 k.am.1
  refine ⟨w2, _, _, hrun, ⟨hti.hot.kept (by omega) (fun i hi => hkeep i (hti.hot.lt hi) (fun e => hmt (e ▸ hi))) (fun g off e => hkeep g (hti.hot.ilt g off e) (k.ai g off e)), hti.own, ⟨hg.os.trans hti.bel.os, hg.tape.trans hti.bel.tape, hg.output.trans hti.bel.output, by have := hti.bel.size; omega, fun i hi => (hkeep i (by have := hti.bel.size; omega) (fun e => by have := k.am.2; omega)).trans (hti.bel.block i hi)⟩⟩, hm2, fun q hq => ?_, ?_, k.inv.yes hs t hB hf, fun x hx => ?_, (t.last hB).1, (hkeep gb (Array.getElem?_eq_some_iff.1 htxt).1 k.ag.2).trans htxt, (hkeep lb (Array.getElem?_eq_some_iff.1 hbox).1 k.al.2).trans hbox, ⟨hmt, k.am.2⟩, ⟨notOwn gb k.lts.2.1 k.ag.1, k.ag.2⟩, ⟨notOwn lb k.lts.2.2 k.al.1, k.al.2⟩, k.ai⟩
  · rw [cntV_snoc]
    by_cases e : key = q
    · subst e
      rw [updV_same, if_pos rfl]
      rfl
    · rw [updV_other _ _ (fun h => e (Value.string.inj h).symm), if_neg e, Int.add_zero]
      exact k.cnt q hq
  · have := k.few
    rw [List.length_append, List.length_singleton]
    split <;> omega
  · rcases List.mem_append.1 hx with hx | hx
    · exact k.zero x hx
    · obtain rfl := List.mem_singleton.1 hx
      rfl
theorem TtI.bounds (k : TtI w wr c s T mt gb lb F n) (hs : 1 ≤ c.R.secs) (q : ByteArray) : 0 ≤ cntV T q ∧ cntV T q ≤ usedH c s 0 q ∧ cntV T q ≤ limI c.R q := by
  obtain ⟨h1, h2⟩ := all_in (b := c.R.secs * 100000) (by omega) k.zero q
  have h3 := k.inv.used hs (at_ := 0) (by rw [k.last]; exact Int.le_refl _) q
  have h4 := k.inv.near q 0 (by rw [k.last]; exact Int.le_refl _)
  rw [h1] at h3
  rw [h2] at h4
  exact ⟨sumTk_nonneg k.inv.nn, h3, h4⟩
theorem TtI.texts (k : TtI w wr c s T mt gb lb F n) : TextsAt wr (some ⟨gb, 0, none⟩) [app1] := by
  refine Or.inr ⟨gb, 0, rfl, k.lts.2.1, fun j hj => ?_⟩
  obtain rfl : j = 0 := by simp at hj; omega
  have := k.txt
  simp only [World.cell?, this]; rfl

set_option maxHeartbeats 12800000 in
set_option maxRecDepth 100000 in
theorem toptwice_walk {w : World} (a : Option Addr) (len cap : Nat) (ss : List ByteArray) (hl : ss.length = len) (hm : len ≤ 140737488351232) (hs : StrsAt w a ss) (hsz : ∀ s, s ∈ ss → s.size ≤ maxLen)
    (a2 : Option Addr) (len2 cap2 : Nat) (os : List ByteArray) (hl2 : os.length = len2) (hm2 : len2 ≤ 140737488351232) (hs2 : StrsAt w a2 os) (hsz2 : ∀ s, s ∈ os → s.size ≤ maxLen) :
    Calls Try.prog 3 #[.slice a len cap, .slice a2 len2 cap2] w fun e w' => e = .returned (.bool true) ∧ Below w.heap.size w w' := by
  have HS := Lib.hid hs
  have HSZ := Lib.hid hsz
  have HL := Lib.hid hl
  have HS2 := Lib.hid hs2
  have HSZ2 := Lib.hid hsz2
  have HL2 := Lib.hid hl2
  have HNW : Hid (Calls Try.prog 4 #[.agg #[.string ⟨#[97]⟩, .int .i64 0, .int .i64 3, .int .i64 1, .slice none 0 0], .int .i64 2, .int .u64 9] w _) := hnew_any twR (twR_ok w) 2 9 (by omega) (by omega)
  have HGL : Hid (∀ (wx : World) (gb : Nat) (o : ByteArray), TextsAt wx (some ⟨gb, 0, none⟩) [app1] → Calls Try.prog 5 #[.agg #[.string ⟨#[97]⟩, .bool true, .slice (some ⟨gb, 0, none⟩) 1 1], .string o] wx fun e w' => e = .returned (.bool (listB ⟨#[97]⟩ true [app1] o)) ∧ Below wx.heap.size wx w') :=
    fun wx gb o h => glist_any ⟨#[97]⟩ true (by decide) (some ⟨gb, 0, none⟩) 1 1 [app1] rfl (by omega) (by omega) h (by intro x hx; obtain rfl := List.mem_singleton.1 hx; decide) o
  clear hs hsz hl hs2 hsz2 hl2
  go_enter Try.func3, Try.ntmps3
  go_wp2_with (fail)
  refine HNW.out.mono ?_
  rintro e w1 ⟨hb1, _, hy⟩
  obtain ⟨c, s, rfl, h1⟩ := hy twR_new
  have HN := Lib.hid h1
  have HB1 := Lib.hid hb1
  have halg : Below w1.heap.size w1 (w1.alloc (.cells #[.string app1] 9)) := (Below.refl _ _).alloc (Nat.le_refl _) _
  have hall : Below w1.heap.size w1 ((w1.alloc (.cells #[.string app1] 9)).alloc (.cells #[.string ⟨#[97]⟩, .bool true, .slice (some ⟨w1.heap.size, 0, none⟩) 1 1] 32)) := halg.alloc halg.size _
  have hng := new_blockS w1 (.cells #[.string app1] 9)
  have hnl := new_blockS (w1.alloc (.cells #[.string app1] 9)) (.cells #[.string ⟨#[97]⟩, .bool true, .slice (some ⟨w1.heap.size, 0, none⟩) 1 1] 32)
  have hzg : (w1.alloc (.cells #[.string app1] 9)).heap.size = w1.heap.size + 1 := by simp
  rw [hzg] at hnl
  have hng2 := (Below.heap_alloc (w1.alloc (.cells #[.string app1] 9)) (.cells #[.string ⟨#[97]⟩, .bool true, .slice (some ⟨w1.heap.size, 0, none⟩) 1 1] 32) w1.heap.size (by omega)).trans hng
  have hzl : ((w1.alloc (.cells #[.string app1] 9)).alloc (.cells #[.string ⟨#[97]⟩, .bool true, .slice (some ⟨w1.heap.size, 0, none⟩) 1 1] 32)).heap.size = w1.heap.size + 2 := by simp
  have HW2 := Lib.hid (And.intro hall (And.intro hng2 (And.intro hnl hzl)))
  have htx : TextsAt ((w1.alloc (.cells #[.string app1] 9)).alloc (.cells #[.string ⟨#[97]⟩, .bool true, .slice (some ⟨w1.heap.size, 0, none⟩) 1 1] 32)) (some ⟨w1.heap.size, 0, none⟩) [app1] := by
    refine Or.inr ⟨w1.heap.size, 0, rfl, by omega, fun j hj => ?_⟩
    obtain rfl : j = 0 := by simp at hj; omega
    simp only [World.cell?, hng2]; rfl
  have HG1 := HGL.out _ w1.heap.size app1 htx
  rw [tw_app1] at HG1
  have HTX := Lib.hid htx
  unfold app1 at HG1 HW2 HTX
  have HG1 := Lib.hid HG1
  clear hy h1 hb1 HNW halg hall hng hnl hzg hng2 hzl htx
  go_wp2_with (fail)
  refine HG1.out.mono ?_
  rintro e w3 ⟨rfl, h3⟩
  obtain ⟨hall, hng2, hnl, hzl⟩ := HW2.out
  have b0 := (h3.block (w1.heap.size + 1) (by omega)).trans hnl
  have g0 := (h3.block w1.heap.size (by omega)).trans hng2
  have c0 : w3.cell? ⟨w1.heap.size + 1, 0, none⟩ = some (.string ⟨#[97]⟩) := by simp only [World.cell?, b0]; rfl
  have c1 : w3.cell? ⟨w1.heap.size + 1, 1, none⟩ = some (.bool true) := by simp only [World.cell?, b0]; rfl
  have c2 : w3.cell? ⟨w1.heap.size + 1, 2, none⟩ = some (.slice (some ⟨w1.heap.size, 0, none⟩) 1 1) := by simp only [World.cell?, b0]; rfl
  have hb13 : Below w1.heap.size w1 w3 := hall.trans (h3.mono (by omega))
  have htx3 : TextsAt w3 (some ⟨w1.heap.size, 0, none⟩) [app1] := by
    refine Or.inr ⟨w1.heap.size, 0, rfl, by have := h3.size; omega, fun j hj => ?_⟩
    obtain rfl : j = 0 := by simp at hj; omega
    simp only [World.cell?, g0]; rfl
  have HG2 := HGL.out _ w1.heap.size app2 htx3
  rw [tw_app2] at HG2
  unfold app2 at HG2
  have HG2 := Lib.hid HG2
  have HW3 := Lib.hid (And.intro hb13 (And.intro g0 (And.intro b0 (show w1.heap.size + 2 ≤ w3.heap.size by have := h3.size; omega))))
  clear hall hng2 hnl hzl b0 g0 hb13 htx3 h3 HW2 HTX HG1
  go_wp2_with (fail)
  refine HG2.out.mono ?_
  rintro e w4 ⟨rfl, h4⟩
  obtain ⟨hb13, g0, b0, hz3⟩ := HW3.out
  have hmk : ∀ wx : World, (Instr.makeMap 34 none).run Try.prog wx = .ok (.map (some wx.heap.size)) (wx.alloc (.map #[] 0)) := fun wx => run_makeMap _ wx
  have hal5 : Below w4.heap.size w4 (w4.alloc (.map #[] 0)) := (Below.refl _ _).alloc (Nat.le_refl _) _
  have hm5 := mapV_made w4 9
  have hb15 : Below w1.heap.size w1 (w4.alloc (.map #[] 0)) := (hb13.trans (h4.mono (by omega))).trans (hal5.mono (by have := h4.size; omega))
  have hsc : c.R.secs = 1 := by obtain ⟨a', c', e⟩ := HN.out.R; rw [e]; rfl
  have hlm : ∀ k, limI c.R k = 3 := fun k => by obtain ⟨a', c', e⟩ := HN.out.R; rw [e]; rfl
  have HI := Lib.hid (show TtI w (w4.alloc (.map #[] 0)) c s [] w4.heap.size w1.heap.size (w1.heap.size + 1) (fun _ => none) 0 from
    ⟨⟨HN.out.hot.below hb15, HN.out.own, HB1.out.trans (hb15.mono HB1.out.size)⟩, hm5, fun k hk => rfl, Nat.le_refl _, InvB.start HN.out.WS HN.out.sn HN.out.hot.fine, by simp, HN.out.last, (hal5.block _ (by have := h4.size; omega)).trans ((h4.block _ (by omega)).trans g0), (hal5.block _ (by have := h4.size; omega)).trans ((h4.block _ (by omega)).trans b0),
      ⟨fun h => by have := HN.out.hot.lt h; have := h4.size; omega, by have := HB1.out.size; have := h4.size; omega⟩, ⟨fun h => by have := HN.out.hot.lt h; omega, by have := h4.size; omega⟩, ⟨fun h => by have := HN.out.hot.lt h; omega, by have := h4.size; omega⟩, fun g off e => by have := HN.out.hot.ilt g off e; have := h4.size; omega⟩)
  have HSC := Lib.hid hsc
  have HLIM := Lib.hid hlm
  clear hb13 g0 b0 hz3 hal5 hm5 hb15 hsc hlm h4 HW3 HN HB1 HG2 c0 c1 c2
  go_wp2_with (fail)
  generalize w4.alloc (.map #[] 0) = w5 at *
  generalize w4.heap.size = mt at *
  generalize w1.heap.size + 1 = lb at *
  generalize w1.heap.size = gb at *
  clear hmk
  go_loopw [9, 10, 11, 12, 13] (fun v9 _ _ _ _ wr => ∃ (i : Nat) (s' : HotV) (T : List TkS) (F : Value → Option Value) (n : Nat), i ≤ len ∧ i ≤ 100 ∧ v9 = .int .i64 i ∧ T.length ≤ i ∧ Hid (TtI w wr c s' T mt gb lb F n)) (fun v9 _ _ _ _ _ => len - (intOf v9).toNat)
  case atStart => exact ⟨0, s, [], _, 0, Nat.zero_le _, by omega, rfl, Nat.zero_le _, HI⟩
  case round =>
    clear HI
    obtain ⟨i, s', T, F, n, hi, hi1, rfl, hTi, HI⟩ := hrel
    by_cases hlt : i < len ∧ i < 100
    · obtain ⟨hlt, h100⟩ := hlt
      rcases HS.out with h | ⟨b, off, rfl, hbl, hcell⟩
      · exfalso; have := HL.out; subst h; simp at this; omega
      · have hkl : i < ss.length := by rw [HL.out]; exact hlt
        have hkz := HSZ.out (ss.getD i ⟨#[]⟩) (by simp [List.getD, hkl])
        have e0 := hcell i hkl
        have k0 : (0 : Int) ≤ i := by omega
        have k1 : (i : Int) < len := by omega
        have k2 : (i : Int) < 100 := by omega
        generalize ss.getD i ⟨#[]⟩ = key at *
        have HKZ := Lib.hid hkz
        have HE0 := Lib.hid e0
        have HD := Lib.hid (show ∀ wx : World, Below w.heap.size w wx → wx.cell? ⟨b, off + i, none⟩ = some (.string key) from fun wx h => (h.cell (p := ⟨b, off + i, none⟩) hbl).trans HE0.out)
        have d1 := HD.out wr HI.out.hti.bel
        have b0 := HI.out.box
        have c0 : wr.cell? ⟨lb, 0, none⟩ = some (.string ⟨#[97]⟩) := by simp only [World.cell?, b0]; rfl
        have c1 : wr.cell? ⟨lb, 1, none⟩ = some (.bool true) := by simp only [World.cell?, b0]; rfl
        have c2 : wr.cell? ⟨lb, 2, none⟩ = some (.slice (some ⟨gb, 0, none⟩) 1 1) := by simp only [World.cell?, b0]; rfl
        have HGO := Lib.hid (fun (o : ByteArray) => HGL.out wr gb o HI.out.texts)
        clear hcell e0 hkl hkz b0
        by_cases ho : i < len2
        · rcases HS2.out with h | ⟨b2, off2, rfl, hbl2, hcell2⟩
          · exfalso; have := HL2.out; subst h; simp at this; omega
          · have f0 := hcell2 i (by rw [HL2.out]; exact ho)
            have d2 := (HI.out.hti.bel.cell (p := ⟨b2, off2 + i, none⟩) hbl2).trans f0
            have k3 : (i : Int) < len2 := by omega
            generalize os.getD i ⟨#[]⟩ = o at *
            have HG := HGO.out o
            clear hcell2 f0
            cases hlb : listB ⟨#[97]⟩ true [app1] o with
            | false =>
              rw [hlb] at HG
              obtain ⟨o1, o2⟩ := tw_other hlb
              have HG := Lib.hid HG
              clear hlb
              go_wp2_with (fail)
              refine HG.out.mono ?_
              rintro e w2 ⟨rfl, h2⟩
              have HI2 := Lib.hid (HI.out.below h2)
              clear h2 HG c0 c1 c2
              go_wp2_with (fail)
              exact ⟨⟨i + 1, s', T, F, n, by omega, by omega, by go_num, by omega, HI2⟩, by first | (simp [intOf]; done) | (simp [intOf]; omega)⟩
            | true =>
              rw [hlb] at HG
              have HG := Lib.hid HG
              clear hlb
              go_wp2_with (fail)
              refine HG.out.mono ?_
              rintro e w2 ⟨rfl, h2⟩
              have HI2 := Lib.hid (HI.out.below h2)
              have d1 := HD.out w2 HI2.out.hti.bel
              clear h2 HG c0 c1 c2
              by_cases h64 : 64 < (key.size : Int)
              · go_wp2_with (fail)
                exact ⟨⟨i + 1, s', T, F, n, by omega, by omega, by go_num, by omega, HI2⟩, by first | (simp [intOf]; done) | (simp [intOf]; omega)⟩
              · have hE : lookHE s'.last 0 key 1 = 0 := by
                  unfold lookHE hwE badH
                  rw [HI2.out.last, decide_eq_false (by omega), decide_eq_false (by omega)]
                  simp
                  omega
                have HT := htake_any HI2.out.hti.hot 0 key HKZ.out 1
                rw [hE] at HT
                have HE := Lib.hid hE
                clear hE
                cases hB : lookHB c s' 0 key 1 with
                | false =>
                  rw [hB] at HT
                  have HB := Lib.hid hB
                  clear hB
                  have HT := Lib.hid HT
                  go_wp2_with (fail)
                  refine HT.out.mono ?_
                  rintro e w3 ⟨s3, rfl, t3⟩
                  have HI3 := Lib.hid (HI2.out.takeNo t3 HE.out HB.out)
                  obtain ⟨T3, hT3⟩ : ∃ T3, T3 = T := ⟨_, rfl⟩
                  rw [← hT3] at HI3
                  have hT3l : T3.length ≤ i + 1 := by rw [hT3]; omega
                  have d1 := HD.out w3 HI3.out.hti.bel
                  obtain ⟨w5, F5, n5, HI5, hw5⟩ : ∃ w5 F5 n5, Hid (TtI w w5 c s3 T3 mt gb lb F5 n5) ∧ w5 = w3 := ⟨w3, F, n, HI3, rfl⟩
                  rw [← hw5] at d1 ⊢
                  clear t3 HT HI2 HI3 HB HE hT3 hw5
                  go_wp2_with (fail)
                  have HU := hUsed_any HI5.out.hti.hot 0 key HKZ.out
                  rw [show hwE s3.last 0 key = 0 from (by unfold hwE; rw [HI5.out.last]; simp; omega), if_pos rfl] at HU
                  have HU := Lib.hid HU
                  have hbd := HI5.out.bounds (by rw [HSC.out]; omega) key
                  rw [HLIM.out] at hbd
                  have HLK := Lib.hid (fun (w6 : World) (h : Below w5.heap.size w5 w6) => (HI5.out.below h).look HKZ.out)
                  generalize usedH c s3 0 key = U at *
                  generalize cntV T3 key = CV at *
                  have u0 := hbd.1
                  have u1 : ¬ U < CV := by omega
                  have u2 : ¬ 3 < CV := by omega
                  clear hbd
                  refine HU.out.mono ?_
                  rintro e w6 ⟨rfl, h6⟩
                  have HI6 := Lib.hid (HI5.out.below h6)
                  have d1 := HD.out w6 HI6.out.hti.bel
                  have hlk6 := HLK.out w6 h6
                  clear h6 HU HI5 HLK
                  go_wp2_with (fail)
                  exact ⟨⟨i + 1, s3, T3, F5, n5, by omega, by omega, by go_num, hT3l, HI6⟩, by first | (simp [intOf]; done) | (simp [intOf]; omega)⟩
                | true =>
                  rw [hB] at HT
                  have HB := Lib.hid hB
                  clear hB
                  have HT := Lib.hid HT
                  go_wp2_with (fail)
                  refine HT.out.mono ?_
                  rintro e w3 ⟨s3, rfl, t3⟩
                  obtain ⟨hlk, w5, F5, n5, hupd, hi5⟩ := HI2.out.takeYes HKZ.out t3 HB.out (by rw [HSC.out]; omega) (by omega)
                  have HI5 := Lib.hid hi5
                  have d1 := HD.out w3 (HI2.out.hti.take t3).bel
                  have d1b := HD.out w5 hi5.hti.bel
                  have hbd := HI2.out.bounds (by rw [HSC.out]; omega) key
                  rw [HLIM.out] at hbd
                  obtain ⟨T3, hT3⟩ : ∃ T3, T3 = T ++ [(⟨0, 0, key, 1⟩ : TkS)] := ⟨_, rfl⟩
                  rw [← hT3] at HI5
                  have hT3l : T3.length ≤ i + 1 := by rw [hT3]; simp; omega
                  have hv0 := hbd.1
                  have hv3 := hbd.2.2
                  generalize cntV T key = CV at *
                  clear t3 HT HI2 HB HE hi5 hT3 hbd
                  go_wp2_with (fail)
                  clear hlk hupd d1
                  have d1 := d1b
                  have HU := hUsed_any HI5.out.hti.hot 0 key HKZ.out
                  rw [show hwE s3.last 0 key = 0 from (by unfold hwE; rw [HI5.out.last]; simp; omega), if_pos rfl] at HU
                  have HU := Lib.hid HU
                  have hbd := HI5.out.bounds (by rw [HSC.out]; omega) key
                  rw [HLIM.out] at hbd
                  have HLK := Lib.hid (fun (w6 : World) (h : Below w5.heap.size w5 w6) => (HI5.out.below h).look HKZ.out)
                  generalize usedH c s3 0 key = U at *
                  generalize cntV T3 key = CV at *
                  have u0 := hbd.1
                  have u1 : ¬ U < CV := by omega
                  have u2 : ¬ 3 < CV := by omega
                  clear hbd
                  refine HU.out.mono ?_
                  rintro e w6 ⟨rfl, h6⟩
                  have HI6 := Lib.hid (HI5.out.below h6)
                  have d1 := HD.out w6 HI6.out.hti.bel
                  have hlk6 := HLK.out w6 h6
                  clear h6 HU HI5 HLK
                  go_wp2_with (fail)
                  exact ⟨⟨i + 1, s3, T3, F5, n5, by omega, by omega, by go_num, hT3l, HI6⟩, by first | (simp [intOf]; done) | (simp [intOf]; omega)⟩
        · have k3 : ¬ (i : Int) < len2 := by omega
          obtain ⟨o, hoo⟩ : ∃ o : ByteArray, o = ⟨#[97, 112, 112, 49]⟩ := ⟨_, rfl⟩
          have HG := HGO.out o
          rw [hoo] at HG
          have hg1 := tw_app1
          unfold app1 at hg1 HG
          rw [hg1] at HG
          have HG := Lib.hid HG
          clear hg1 hoo
          go_wp2_with (fail)
          refine HG.out.mono ?_
          rintro e w2 ⟨rfl, h2⟩
          have HI2 := Lib.hid (HI.out.below h2)
          have d1 := HD.out w2 HI2.out.hti.bel
          clear h2 HG c0 c1 c2
          by_cases h64 : 64 < (key.size : Int)
          · go_wp2_with (fail)
            exact ⟨⟨i + 1, s', T, F, n, by omega, by omega, by go_num, by omega, HI2⟩, by first | (simp [intOf]; done) | (simp [intOf]; omega)⟩
          · have hE : lookHE s'.last 0 key 1 = 0 := by
              unfold lookHE hwE badH
              rw [HI2.out.last, decide_eq_false (by omega), decide_eq_false (by omega)]
              simp
              omega
            have HT := htake_any HI2.out.hti.hot 0 key HKZ.out 1
            rw [hE] at HT
            have HE := Lib.hid hE
            clear hE
            cases hB : lookHB c s' 0 key 1 with
            | false =>
              rw [hB] at HT
              have HB := Lib.hid hB
              clear hB
              have HT := Lib.hid HT
              go_wp2_with (fail)
              refine HT.out.mono ?_
              rintro e w3 ⟨s3, rfl, t3⟩
              have HI3 := Lib.hid (HI2.out.takeNo t3 HE.out HB.out)
              obtain ⟨T3, hT3⟩ : ∃ T3, T3 = T := ⟨_, rfl⟩
              rw [← hT3] at HI3
              have hT3l : T3.length ≤ i + 1 := by rw [hT3]; omega
              have d1 := HD.out w3 HI3.out.hti.bel
              obtain ⟨w5, F5, n5, HI5, hw5⟩ : ∃ w5 F5 n5, Hid (TtI w w5 c s3 T3 mt gb lb F5 n5) ∧ w5 = w3 := ⟨w3, F, n, HI3, rfl⟩
              rw [← hw5] at d1 ⊢
              clear t3 HT HI2 HI3 HB HE hT3 hw5
              go_wp2_with (fail)
              have HU := hUsed_any HI5.out.hti.hot 0 key HKZ.out
              rw [show hwE s3.last 0 key = 0 from (by unfold hwE; rw [HI5.out.last]; simp; omega), if_pos rfl] at HU
              have HU := Lib.hid HU
              have hbd := HI5.out.bounds (by rw [HSC.out]; omega) key
              rw [HLIM.out] at hbd
              have HLK := Lib.hid (fun (w6 : World) (h : Below w5.heap.size w5 w6) => (HI5.out.below h).look HKZ.out)
              generalize usedH c s3 0 key = U at *
              generalize cntV T3 key = CV at *
              have u0 := hbd.1
              have u1 : ¬ U < CV := by omega
              have u2 : ¬ 3 < CV := by omega
              clear hbd
              refine HU.out.mono ?_
              rintro e w6 ⟨rfl, h6⟩
              have HI6 := Lib.hid (HI5.out.below h6)
              have d1 := HD.out w6 HI6.out.hti.bel
              have hlk6 := HLK.out w6 h6
              clear h6 HU HI5 HLK
              go_wp2_with (fail)
              exact ⟨⟨i + 1, s3, T3, F5, n5, by omega, by omega, by go_num, hT3l, HI6⟩, by first | (simp [intOf]; done) | (simp [intOf]; omega)⟩
            | true =>
              rw [hB] at HT
              have HB := Lib.hid hB
              clear hB
              have HT := Lib.hid HT
              go_wp2_with (fail)
              refine HT.out.mono ?_
              rintro e w3 ⟨s3, rfl, t3⟩
              obtain ⟨hlk, w5, F5, n5, hupd, hi5⟩ := HI2.out.takeYes HKZ.out t3 HB.out (by rw [HSC.out]; omega) (by omega)
              have HI5 := Lib.hid hi5
              have d1 := HD.out w3 (HI2.out.hti.take t3).bel
              have d1b := HD.out w5 hi5.hti.bel
              have hbd := HI2.out.bounds (by rw [HSC.out]; omega) key
              rw [HLIM.out] at hbd
              obtain ⟨T3, hT3⟩ : ∃ T3, T3 = T ++ [(⟨0, 0, key, 1⟩ : TkS)] := ⟨_, rfl⟩
              rw [← hT3] at HI5
              have hT3l : T3.length ≤ i + 1 := by rw [hT3]; simp; omega
              have hv0 := hbd.1
              have hv3 := hbd.2.2
              generalize cntV T key = CV at *
              clear t3 HT HI2 HB HE hi5 hT3 hbd
              go_wp2_with (fail)
              clear hlk hupd d1
              have d1 := d1b
              have HU := hUsed_any HI5.out.hti.hot 0 key HKZ.out
              rw [show hwE s3.last 0 key = 0 from (by unfold hwE; rw [HI5.out.last]; simp; omega), if_pos rfl] at HU
              have HU := Lib.hid HU
              have hbd := HI5.out.bounds (by rw [HSC.out]; omega) key
              rw [HLIM.out] at hbd
              have HLK := Lib.hid (fun (w6 : World) (h : Below w5.heap.size w5 w6) => (HI5.out.below h).look HKZ.out)
              generalize usedH c s3 0 key = U at *
              generalize cntV T3 key = CV at *
              have u0 := hbd.1
              have u1 : ¬ U < CV := by omega
              have u2 : ¬ 3 < CV := by omega
              clear hbd
              refine HU.out.mono ?_
              rintro e w6 ⟨rfl, h6⟩
              have HI6 := Lib.hid (HI5.out.below h6)
              have d1 := HD.out w6 HI6.out.hti.bel
              have hlk6 := HLK.out w6 h6
              clear h6 HU HI5 HLK
              go_wp2_with (fail)
              exact ⟨⟨i + 1, s3, T3, F5, n5, by omega, by omega, by go_num, hT3l, HI6⟩, by first | (simp [intOf]; done) | (simp [intOf]; omega)⟩
    · have HB := Lib.hid HI.out.hti.bel
      have HLM := hLimit_any HI.out.hti.hot ⟨#[120]⟩
      rw [HLIM.out] at HLM
      have HLM := Lib.hid HLM
      clear HI
      by_cases hA : i < len
      · have k1 : (i : Int) < len := by omega
        have k2 : ¬ (i : Int) < 100 := by omega
        go_wp2_with (fail)
        refine HLM.out.mono ?_
        rintro e w2 ⟨rfl, h2⟩
        go_wp2_with (fail)
        go_ret
        exact ⟨by rfl, HB.out.trans (h2.mono HB.out.size)⟩
      · have k1 : ¬ (i : Int) < len := by omega
        go_wp2_with (fail)
        refine HLM.out.mono ?_
        rintro e w2 ⟨rfl, h2⟩
        go_wp2_with (fail)
        go_ret
        exact ⟨by rfl, HB.out.trans (h2.mono HB.out.size)⟩
end Go.Proofs.Ytebjnmhnijkgaaa
