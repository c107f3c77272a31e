/- Texts of one chain, one behind the other: LruR, LruS, LruT. -/
import Derived.OwnWalk
import Derived.Test.YtemlafbkkaloiaaGLruA
import Derived.Test.YtemlafbkkaloiaaOwn

/- lru's answer by the document: how it lies in memory; New, Len, Most, place, Peek. -/
namespace Go.Proofs.Ytemlafbkkaloiaa
open Go.RowKit
set_option linter.unusedVariables false
set_option linter.unusedSimpArgs false

theorem kcell_one (w : World) (u : Value) (t : TypeId) : ∀ j x, ([u] : List Value)[j]? = some x → (w.alloc (.cells #[u] t)).cell? ((⟨w.heap.size, 0, none⟩ : Addr).add j) = some x := by
  intro j x h
  match j with
  | 0 => simp at h; subst h; simp [Addr.add, go_sem]
  | j + 1 => simp at h
theorem krm_kept {wr wx : World} {base size n : Nat} {e : TypeId} {v : Value} {xs : List Value} (h : wr.ownsRow base e size v n xs) (hb : Below wr.heap.size wr wx) : wx.ownsRow base e size v n xs :=
  h.kept (row := none) ⟨hb.os, hb.tape, hb.output, hb.size, fun k hk _ => hb.block k hk⟩ (by cases v.ownBlock <;> simp)
theorem after_append {w3 wr w5 : World} {base size n : Nat} {e : TypeId} {v : Value} {xs : List Value} {o : Obj} (hrow : wr.ownsRow base e size v n xs) (hz : base ≤ wr.heap.size) (hb : Below base w3 wr) (hg : (wr.alloc o).grownBy w5 v.ownBlock) : Below base w3 w5 :=
  (hb.alloc hz o).grown hg (by simp; omega) (fun k e => (hrow.lt k e).1)
theorem info_strK : (Try.prog.info? 9).map (fun i => (i.zero, i.size, i.bytes)) = some (some (.string ⟨#[]⟩), 1, 16) := by kernel_rfl
def flatP (A : List (ByteArray × Int)) : List Value := A.flatMap (fun p => [.string p.1, .int .i64 p.2])
theorem flatP_len (A : List (ByteArray × Int)) : (flatP A).length = A.length * 2 := by
  induction A with
  | nil => rfl
  | cons p A ih => simp only [flatP, List.flatMap_cons, List.length_append, List.length_cons, List.length_nil] at ih ⊢; omega
theorem flatP_append (A B : List (ByteArray × Int)) : flatP (A ++ B) = flatP A ++ flatP B := by simp [flatP]
theorem flatP_get (A : List (ByteArray × Int)) (i : Nat) (hi : i < A.length) : (flatP A)[i * 2]? = some (.string (A[i]'hi).1) ∧ (flatP A)[i * 2 + 1]? = some (.int .i64 (A[i]'hi).2) := by
  have h : A = A.take i ++ A[i] :: A.drop (i + 1) := by rw [List.getElem_cons_drop, List.take_append_drop]
  have hl : (A.take i).length = i := by simp; omega
  have e : flatP A = flatP (A.take i) ++ (.string (A[i]'hi).1 :: .int .i64 (A[i]'hi).2 :: flatP (A.drop (i + 1))) := by
    conv => lhs; rw [h]
    rw [flatP_append]; rfl
  rw [e]
  have hfl : (flatP (A.take i)).length = i * 2 := by rw [flatP_len, hl]
  constructor
  · rw [List.getElem?_append_right (by omega), hfl]; simp
  · rw [List.getElem?_append_right (by omega), hfl, show i * 2 + 1 - i * 2 = 1 by omega]; rfl

def Rown (r : Nat) (v : Value) (k : Nat) : Prop := k = r ∨ v.ownBlock = some k

/-- The place of a key; -1: nowhere. -/
def plA (A : List (ByteArray × Int)) (s : ByteArray) : Int := match A.findIdx? (fun p => p.1.toList == s.toList) with | some i => (i : Int) | none => -1

end Go.Proofs.Ytemlafbkkaloiaa

/- lru's answer by the document: Peek, out. -/
namespace Go.Proofs.Ytemlafbkkaloiaa
open Go.RowKit
set_option linter.unusedVariables false
set_option linter.unusedSimpArgs false

theorem toList_dec (a b : ByteArray) : (a.toList == b.toList) = decide (a = b) := by
  by_cases h : a = b
  · simp [h]
  · have : a.toList ≠ b.toList := fun e => h (by
      rw [ByteArray.toList_eq, ByteArray.toList_eq] at e
      rcases a with ⟨⟨l⟩⟩; rcases b with ⟨⟨l'⟩⟩; simpa using e)
    simp [h, this]

theorem plA_no {A : List (ByteArray × Int)} {s : ByteArray} (h : hasA A s = false) : plA A s = -1 := by
  have hf : A.findIdx? (fun p => p.1.toList == s.toList) = none := by
    rw [List.findIdx?_eq_none_iff]
    intro p hp
    simp only [hasA, List.any_eq_false, decide_eq_true_eq] at h
    rw [toList_dec]
    simp [h p hp]
  rw [plA, hf]
theorem plA_yes {A : List (ByteArray × Int)} {s : ByteArray} (hn : (A.map (·.1)).Nodup) (h : hasA A s = true) :
    ∃ X y C, A = X ++ y :: C ∧ y.1 = s ∧ plA A s = (X.length : Int) ∧ delA A s = X ++ C ∧ valA A s = y.2 := by
  cases hf : A.findIdx? (fun p => p.1.toList == s.toList) with
  | none =>
    rw [List.findIdx?_eq_none_iff] at hf
    simp only [hasA, List.any_eq_true, decide_eq_true_eq] at h
    obtain ⟨p, hp, e⟩ := h
    have := hf p hp
    rw [toList_dec] at this
    simp [e] at this
  | some i =>
    have hpl : plA A s = (i : Int) := by rw [plA, hf]
    rw [List.findIdx?_eq_some_iff_getElem] at hf
    obtain ⟨hi, h1, _⟩ := hf
    rw [toList_dec, decide_eq_true_eq] at h1
    have hA : A = A.take i ++ A[i] :: A.drop (i + 1) := by rw [List.getElem_cons_drop, List.take_append_drop]
    refine ⟨A.take i, A[i], A.drop (i + 1), hA, h1, by rw [hpl]; simp; omega, ?_, ?_⟩
    · rw [hA] at hn
      simp only [List.map_append, List.map_cons, List.nodup_append, List.nodup_cons] at hn
      obtain ⟨_, ⟨n1, _⟩, n2⟩ := hn
      have key : ∀ B : List (ByteArray × Int), (∀ p, p ∈ B → p.1 ≠ s) → B.filter (fun p => !decide (p.1 = s)) = B := by
        intro B hB
        rw [List.filter_eq_self]
        intro p hp
        simp [hB p hp]
      have k1 := key (A.take i) (fun p hp e => n2 p.1 (List.mem_map.2 ⟨p, hp, rfl⟩) A[i].1 (by simp) (e.trans h1.symm))
      have k2 := key (A.drop (i + 1)) (fun p hp e => n1 (List.mem_map.2 ⟨p, hp, e.trans h1.symm⟩))
      conv => lhs; rw [hA]
      unfold delA
      rw [List.filter_append, List.filter_cons, k1, k2]
      simp [h1]
    · unfold valA
      cases hq : A.find? (fun p => decide (p.1 = s)) with
      | none =>
        rw [List.find?_eq_none] at hq
        exact absurd (by simp [h1]) (hq A[i] (List.getElem_mem hi))
      | some q =>
        have q1 := List.mem_of_find?_eq_some hq
        have q2 := List.find?_some hq
        simp only [decide_eq_true_eq] at q2
        rw [nodup_map_inj (f := fun p : ByteArray × Int => p.1) hn q1 (List.getElem_mem hi) (q2.trans h1.symm)]
        rfl

theorem flatP_one (A : List (ByteArray × Int)) : ∀ u, u ∈ flatP A → u.oneCell' = true := by
  intro u hu
  simp only [flatP, List.mem_flatMap] at hu
  obtain ⟨p, _, hu⟩ := hu
  simp at hu
  rcases hu with rfl | rfl <;> rfl
theorem own_sliceR {w : World} {base : Nat} {e : TypeId} {size : Nat} {v : Value} {n : Nat} {xs : List Value} (h : w.ownsRow base e size v n xs) : ∃ a cap, v = .slice a n cap := by
  rcases h.2 with ⟨h, h2⟩ | ⟨g, cap, cur, h, _⟩
  · exact ⟨none, 0, by rw [h, h2]⟩
  · exact ⟨_, cap, h⟩
theorem ownsRow_mono {w : World} {base base' : Nat} {e : TypeId} {size : Nat} {v : Value} {n : Nat} {xs : List Value} (h : w.ownsRow base e size v n xs) (hb : base' ≤ base) : w.ownsRow base' e size v n xs := by
  obtain ⟨h1, h2⟩ := h
  refine ⟨h1, ?_⟩
  rcases h2 with h2 | ⟨g, cap, cur, h2, h3, r⟩
  · exact Or.inl h2
  · exact Or.inr ⟨g, cap, cur, h2, Nat.le_trans hb h3, r⟩

end Go.Proofs.Ytemlafbkkaloiaa

/- lru's answer by the document: Put. -/
namespace Go.Proofs.Ytemlafbkkaloiaa
open Go.RowKit
set_option linter.unusedVariables false
set_option linter.unusedSimpArgs false

theorem two_cells (w : World) (x y : Value) (t : TypeId) : ∀ j u, ([x, y] : List Value)[j]? = some u → (w.alloc (.cells #[x, y] t)).cell? ((⟨w.heap.size, 0, none⟩ : Addr).add j) = some u := by
  intro j u h
  have hz : (w.alloc (.cells #[x, y] t)).heap[w.heap.size]? = some (.cells #[x, y] t) := by
    show (Array.push w.heap _)[_]? = _
    rw [Array.getElem?_push, if_pos rfl]
  rw [WideShapes.add_plain, Nat.zero_add]
  match j with
  | 0 => simp at h; subst h; simp only [World.cell?, hz]; rfl
  | 1 => simp at h; subst h; simp only [World.cell?, hz]; rfl
  | j + 2 => simp at h

end Go.Proofs.Ytemlafbkkaloiaa
