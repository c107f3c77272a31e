/- Texts of one chain, one behind the other: Ints, StA, StB. -/
import Derived.ProofKit
import Derived.Below
import Derived.Test.YtlipbkpbflgamaaProg
import Derived.Test.YtlipbkpbflgamaaGWinF

/- Where a slice of int64 reads as a list. -/
namespace Go.Proofs.Ytlipbkpbflgamaa
open Go.RowKit

/-- All numbers are int64. -/
def I64s (xs : List Int) : Prop := ∀ x ∈ xs, -9223372036854775808 ≤ x ∧ x ≤ 9223372036854775807
/-- Where a slice of int64 reads as a list. -/
def IntsAt (w : World) (a : Option Addr) (xs : List Int) : Prop :=
  xs = [] ∨ ∃ b off, a = some ⟨b, off, none⟩ ∧ b < w.heap.size ∧ ∀ j, j < xs.length → w.cell? ⟨b, off + j, none⟩ = some (.int .i64 (xs.getD j 0))
end Go.Proofs.Ytlipbkpbflgamaa

/- stat: a node in memory; what looks at it. -/
namespace Go.Proofs.Ytlipbkpbflgamaa
open Go.RowKit
set_option linter.unusedVariables false
set_option linter.unusedSimpArgs false

/-- A node's blocks: its own, its two windows', their maps'. -/
structure NBk where
  q : Nat
  s1 : Nat
  m1 : Nat
  s2 : Nat
  m2 : Nat
def NBk.l (k : NBk) : List Nat := [k.q, k.s1, k.m1, k.s2, k.m2]
def NOwn (k : NBk) (i : Nat) : Prop := i ∈ k.l
theorem nown (k : NBk) : NOwn k k.q ∧ NOwn k k.s1 ∧ NOwn k k.m1 ∧ NOwn k k.s2 ∧ NOwn k k.m2 := by simp [NOwn, NBk.l]
theorem shape10 : ShapeW 1000000 10 := ⟨by omega, by omega, by omega, by omega, by omega⟩
theorem shape2 : ShapeW 2000000 2 := ⟨by omega, by omega, by omega, by omega, by omega⟩
def madeN (N : Nat) : NBk := ⟨N + 4, N + 1, N, N + 3, N + 2⟩
theorem nodeW_own {w : World} {i : Nat} (h : NOwn (madeN w.heap.size) i) : w.heap.size ≤ i := by
  simp only [NOwn, madeN, NBk.l, List.mem_cons, List.mem_nil_iff, or_false] at h
  omega

/-- Is a count wrong? -/
def badN (n : Int) : Bool := decide (n < 1) || decide (1099511627776 < n)
def isT (n : Int) : Bool := decide (0 ≤ n) && decide (n ≤ 1152921504606846976)
/-- The error of a time, and of counts. -/
def lookN (last at_ : Int) (ns : List Int) : Int := if isT at_ = false then 2 else if ns.any badN then 2 else if at_ < last then 7 else 0
theorem lookN_ok {last at_ : Int} {ns : List Int} (h : lookN last at_ ns = 0) : lookW last at_ = 0 ∧ ∀ n, n ∈ ns → 1 ≤ n ∧ n ≤ 1099511627776 := by
  unfold lookN isT at h
  unfold lookW
  by_cases h1 : 0 ≤ at_
  · by_cases h2 : at_ ≤ 1152921504606846976
    · rw [decide_eq_true h1, decide_eq_true h2, if_neg (by simp)] at h
      cases h3 : ns.any badN with
      | true => rw [h3, if_pos rfl] at h; cases h
      | false =>
        rw [h3, if_neg (by simp)] at h
        split at h
        · cases h
        · refine ⟨by rw [if_neg (by omega), if_neg (by omega)], fun n hn => ?_⟩
          have := List.any_eq_false.1 h3 n hn
          unfold badN at this
          simp at this
          omega
    · rw [decide_eq_false h2, Bool.and_false, if_pos rfl] at h; cases h
  · rw [decide_eq_false h1, Bool.false_and, if_pos rfl] at h; cases h
theorem lookN_nil (last at_ : Int) : lookN last at_ [] = lookW last at_ := by
  unfold lookN lookW isT
  by_cases h1 : 0 ≤ at_
  · by_cases h2 : at_ ≤ 1152921504606846976
    · rw [decide_eq_true h1, decide_eq_true h2, if_neg (by simp), if_neg (by simp), if_neg (show ¬ (at_ < 0 ∨ 1152921504606846976 < at_) by omega)]
    · rw [decide_eq_false h2, Bool.and_false, if_pos rfl, if_pos (by omega)]
  · rw [decide_eq_false h1, Bool.false_and, if_pos rfl, if_pos (by omega)]
theorem any_takeN {ns : List Int} {k : Nat} (h : (ns.take k).any badN = false) {y : Int} (hy : ns[k]? = some y) (hb : badN y = false) : (ns.take (k + 1)).any badN = false := by
  obtain ⟨hk, rfl⟩ := List.getElem?_eq_some_iff.1 hy
  rw [List.take_succ_eq_append_getElem hk, List.any_append, h, List.any_cons, hb]; rfl
theorem any_hitN {ns : List Int} {k : Nat} {y : Int} (hy : ns[k]? = some y) (hb : badN y = true) : ns.any badN = true := List.any_eq_true.2 ⟨y, List.mem_of_getElem? hy, hb⟩
theorem IntsAt.getN {w : World} {a : Option Addr} {xs : List Int} (h : IntsAt w a xs) {k : Nat} {y : Int} (hy : xs[k]? = some y) : ∃ b off, a = some ⟨b, off, none⟩ ∧ b < w.heap.size ∧ w.cell? ⟨b, off + k, none⟩ = some (.int .i64 y) := by
  obtain ⟨hk, rfl⟩ := List.getElem?_eq_some_iff.1 hy
  rcases h with rfl | ⟨b, off, rfl, hlt, hc⟩
  · simp at hk
  · refine ⟨b, off, rfl, hlt, ?_⟩
    rw [hc k hk, List.getD_eq_getElem?_getD, List.getElem?_eq_getElem hk]; rfl

end Go.Proofs.Ytlipbkpbflgamaa

/- stat: note, Pass, Block, Done, Sum, Past. -/
namespace Go.Proofs.Ytlipbkpbflgamaa
open Go.RowKit
set_option linter.unusedVariables false
set_option linter.unusedSimpArgs false

def passC (c : Int) : CntS := ⟨c, 0, 0, 0, 0, 0⟩
def blockC (c : Int) : CntS := ⟨0, c, 0, 0, 0, 0⟩
theorem passC_right {c : Int} (h0 : 1 ≤ c) (h1 : c ≤ 1099511627776) : RightC (passC c) := by constructor <;> simp [passC] <;> omega
theorem blockC_right {c : Int} (h0 : 1 ≤ c) (h1 : c ≤ 1099511627776) : RightC (blockC c) := by constructor <;> simp [blockC] <;> omega
theorem newsC (w : World) (c : CntS) : ∀ j u, (flatC [c])[j]? = some u → (w.alloc (ctO c 71)).cell? ((⟨w.heap.size, 0, none⟩ : Addr).add j) = some u := by
  intro j u hu
  have hn : (w.alloc (ctO c 71)).heap[w.heap.size]? = some (ctO c 71) := (get_allocW w _ _).trans (if_pos rfl)
  rw [WideShapes.add_plain, Nat.zero_add]
  obtain ⟨⟨z0, z1, z2, z3, z4, z5⟩, _⟩ := ct_cells hn
  have hl : j < 6 := by have := (List.getElem?_eq_some_iff.1 hu).1; simpa [flatC, CntS.vals] using this
  match j, hl with
  | 0, _ => have e : Value.int .i64 c.p = u := by simpa [flatC, CntS.vals] using hu
            rw [← e]; exact z0
  | 1, _ => have e : Value.int .i64 c.b = u := by simpa [flatC, CntS.vals] using hu
            rw [← e]; exact z1
  | 2, _ => have e : Value.int .i64 c.d = u := by simpa [flatC, CntS.vals] using hu
            rw [← e]; exact z2
  | 3, _ => have e : Value.int .i64 c.e = u := by simpa [flatC, CntS.vals] using hu
            rw [← e]; exact z3
  | 4, _ => have e : Value.int .i64 c.r = u := by simpa [flatC, CntS.vals] using hu
            rw [← e]; exact z4
  | 5, _ => have e : Value.int .i64 c.m = u := by simpa [flatC, CntS.vals] using hu
            rw [← e]; exact z5
theorem flatC_snoc (l : List CntS) (c : CntS) : flatC (l ++ [c]) = flatC l ++ flatC [c] := by simp [flatC]
/-- One more behind a row of its own. -/
theorem run_append_one {w wr : World} {v : Value} {j : Nat} {cs : List CntS} (hown : wr.ownsRow w.heap.size 71 6 v j (flatC cs)) (hb : Below w.heap.size w wr) (hj : j < 1099511627776) (c : CntS) (ty : TypeId) :
    ∃ v' w', (Builtin.append_ #[92, 92] ty #[v, .slice (some ⟨wr.heap.size, 0, none⟩) 1 1]).run Try.prog (wr.alloc (ctO c 71)) = .ok v' w' ∧ w'.ownsRow w.heap.size 71 6 v' (j + 1) (flatC (cs ++ [c])) ∧ Below w.heap.size w w' := by
  obtain ⟨i0, hi, hz0, hz1, hz2⟩ := info_parts info_ct
  obtain ⟨v', w', hr, h2, h3, h4⟩ := run_append_own (P := Try.prog) (wr.alloc (ctO c 71)) w.heap.size 92 ty 71 i0 _ 6 48 Try.underlying92 hi hz0 hz1 hz2 rfl (by decide) v j (flatC cs) (hown.alloc _) ⟨wr.heap.size, 0, none⟩ 1 1 (flatC [c]) rfl (newsC wr c) (flatC_one [c]) (by unfold maxLen; omega) (by omega) (by have := hb.size; simp; omega)
  refine ⟨v', w', hr, by rw [flatC_snoc]; exact h2, (hb.alloc hb.size _).grown h3 (by have := hb.size; simp; omega) (fun k e => ?_)⟩
  exact (hown.lt k e).1

/-- The error of Pass. -/
def passE (last flight at_ : Int) (ns : List Int) : Int := if lookN last at_ ns ≠ 0 then lookN last at_ ns else if 4096 - flight < ns.length then 3 else 0
def blockE (last flight at_ : Int) (ns : List Int) : Int := if lookN last at_ ns ≠ 0 then lookN last at_ ns else 0

end Go.Proofs.Ytlipbkpbflgamaa
