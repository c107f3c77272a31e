/- lru, plain: after some puts the last ones are there. -/
import Derived.Test.YtidcbjgiohkidaaLruI
namespace Go.Proofs.Ytidcbjgiohkidaa
open Go.RowKit
set_option linter.unusedVariables false
set_option linter.unusedSimpArgs false

abbrev KV := ByteArray × Int
/-- Each key once, at its first place. -/
def ded : List KV → List KV
  | [] => []
  | x :: Z => x :: (ded Z).filter (fun p => !decide (p.1 = x.1))
def inK (D : List KV) (s : ByteArray) : Bool := D.any (fun p => decide (p.1 = s))

theorem inK_filter (D : List KV) (x s : ByteArray) : inK (D.filter (fun p => !decide (p.1 = x))) s = (inK D s && !decide (s = x)) := by
  induction D with
  | nil => rfl
  | cons d D ih =>
    simp only [inK, List.filter_cons, List.any_cons] at ih ⊢
    by_cases h : d.1 = x
    · rw [show (!decide (d.1 = x)) = false by simp [h]]
      simp only [Bool.false_eq_true, if_false, ih]
      by_cases hs : d.1 = s
      · have : s = x := hs.symm.trans h
        simp [this]
      · simp [hs]
    · rw [show (!decide (d.1 = x)) = true by simp [h]]
      simp only [if_true, List.any_cons, ih]
      by_cases hs : d.1 = s
      · have : s ≠ x := fun e => h (hs.trans e)
        simp [hs, this]
      · simp [hs]
theorem ded_snoc : ∀ (Z : List KV) (y : KV), ded (Z ++ [y]) = if inK (ded Z) y.1 then ded Z else ded Z ++ [y]
  | [], y => by simp [ded, inK]
  | x :: Z, y => by
    have ih := ded_snoc Z y
    have hk : inK (ded (x :: Z)) y.1 = (decide (x.1 = y.1) || (inK (ded Z) y.1 && !decide (y.1 = x.1))) := by
      rw [← inK_filter]; rfl
    have e1 : ded (x :: Z ++ [y]) = x :: (ded (Z ++ [y])).filter (fun p => !decide (p.1 = x.1)) := rfl
    have e2 : ded (x :: Z) = x :: (ded Z).filter (fun p => !decide (p.1 = x.1)) := rfl
    rw [e1, ih, hk, e2]
    clear ih hk e1 e2
    cases h1 : inK (ded Z) y.1
    · by_cases h2 : x.1 = y.1
      · simp [List.filter_append, h2]
      · have h3 : y.1 ≠ x.1 := fun e => h2 e.symm
        simp [List.filter_append, h2, h3]
    · by_cases h2 : x.1 = y.1
      · simp [h2]
      · have h3 : y.1 ≠ x.1 := fun e => h2 e.symm
        simp [h2, h3]
theorem ded_prefix (Z W : List KV) : ∃ E, ded (Z ++ W) = ded Z ++ E := by
  induction W generalizing Z with
  | nil => exact ⟨[], by simp⟩
  | cons y W ih =>
    obtain ⟨E, h⟩ := ih (Z ++ [y])
    rw [show Z ++ y :: W = Z ++ [y] ++ W by simp, h, ded_snoc]
    split
    · exact ⟨E, rfl⟩
    · exact ⟨y :: E, by simp⟩
theorem inK_map (D : List KV) (s : ByteArray) : inK D s = true ↔ s ∈ D.map (·.1) := by
  simp only [inK, List.any_eq_true, decide_eq_true_eq, List.mem_map]
theorem ded_nodup : ∀ Z : List KV, ((ded Z).map (·.1)).Nodup
  | [] => by simp [ded]
  | x :: Z => by
    simp only [ded, List.map_cons, List.nodup_cons]
    constructor
    · rw [← inK_map, inK_filter]; simp
    · exact (ded_nodup Z).sublist (List.Sublist.map _ List.filter_sublist)

theorem filter_none {D : List KV} {s : ByteArray} (h : s ∉ D.map (·.1)) : D.filter (fun p => !decide (p.1 = s)) = D := by
  rw [List.filter_eq_self]
  intro p hp
  have : p.1 ≠ s := fun e => h (List.mem_map.2 ⟨p, hp, e⟩)
  simp [this]
/-- A filter that strikes at most one. -/
theorem take_filter (s : ByteArray) : ∀ (D : List KV) (m : Nat), (D.map (·.1)).Nodup → ((D.take (m + 1)).filter (fun p => !decide (p.1 = s))).take m = (D.filter (fun p => !decide (p.1 = s))).take m
  | [], m, _ => by simp
  | d :: D, m, hn => by
    simp only [List.map_cons, List.nodup_cons] at hn
    simp only [List.take_succ_cons, List.filter_cons]
    by_cases h : d.1 = s
    · rw [show (!decide (d.1 = s)) = false by simp [h]]
      simp only [Bool.false_eq_true, if_false]
      have h2 : s ∉ D.map (·.1) := h ▸ hn.1
      rw [filter_none h2, filter_none (D := D.take m)]
      · rw [List.take_take, Nat.min_self]
      · intro hm
        exact h2 ((List.Sublist.map _ (List.take_sublist _ _)).subset hm)
    · rw [show (!decide (d.1 = s)) = true by simp [h]]
      simp only [if_true]
      cases m with
      | zero => simp
      | succ m =>
        simp only [List.take_succ_cons]
        rw [take_filter s D m hn.2]

theorem hasA_inK (A : List KV) (s : ByteArray) : hasA A s = inK A s := rfl
theorem inK_rev (A : List KV) (s : ByteArray) : inK A.reverse s = inK A s := by
  simp [inK]

theorem put_rev {n : Nat} (hn : 1 ≤ n) {A : List KV} (hA : A.length ≤ n) (s : ByteArray) (v : Int) :
    (putA n A s v).reverse = ((s, v) :: A.reverse.filter (fun p => !decide (p.1 = s))).take n := by
  obtain ⟨m, rfl⟩ : ∃ m, n = m + 1 := ⟨n - 1, by omega⟩
  unfold putA
  cases h : hasA A s
  · have hno : s ∉ A.reverse.map (·.1) := by
      rw [← inK_map, inK_rev, ← hasA_inK, h]; simp
    rw [filter_none hno]
    simp only [Bool.false_eq_true, if_false, List.take_succ_cons]
    split
    · rename_i hl
      cases A with
      | nil => simp at hl
      | cons a A =>
        simp only [List.length_cons] at hl
        simp only [List.tail_cons, List.reverse_append, List.reverse_cons, List.reverse_nil, List.nil_append, List.singleton_append]
        rw [List.take_append_of_le_length (by simp; omega), List.take_of_length_le (by simp; omega)]
    · simp only [List.reverse_append, List.reverse_cons, List.reverse_nil, List.nil_append, List.singleton_append]
      rw [List.take_of_length_le (by simp; omega)]
  · simp only [if_true, List.reverse_append, List.reverse_cons, List.reverse_nil, List.nil_append, List.singleton_append, List.take_succ_cons]
    rw [List.take_of_length_le]
    · rw [delA, List.filter_reverse]
    · rw [List.filter_reverse, List.length_reverse]
      have h1 : (A.filter (fun p => !decide (p.1 = s))).length < A.length := by
        rw [List.length_filter_lt_length_iff_exists]
        simp only [hasA, List.any_eq_true] at h
        obtain ⟨p, hp, h⟩ := h
        exact ⟨p, hp, by simp at h; simp [h]⟩
      exact Nat.le_of_lt_succ (Nat.lt_of_lt_of_le h1 hA)

/-- Keys with their places, the last one first. -/
def zs (ks : List ByteArray) : Nat → List KV
  | 0 => []
  | i + 1 => (ks.getD i ⟨#[]⟩, (i : Int)) :: zs ks i
theorem zs_len (ks : List ByteArray) : ∀ i, (zs ks i).length = i
  | 0 => rfl
  | i + 1 => by simp [zs, zs_len ks i]
theorem zs_get (ks : List ByteArray) : ∀ i j, j < i → (zs ks i)[j]? = some (ks.getD (i - 1 - j) ⟨#[]⟩, ((i - 1 - j : Nat) : Int))
  | 0, j, h => by omega
  | i + 1, 0, h => by simp [zs]
  | i + 1, j + 1, h => by
    simp only [zs, List.getElem?_cons_succ]
    rw [zs_get ks i j (by omega)]
    rw [show i + 1 - 1 - (j + 1) = i - 1 - j by omega]

/-- What a map of n keys holds behind i puts. -/
theorem held_next {n : Nat} (hn : 1 ≤ n) {A : List KV} (hA : A.length ≤ n) {ks : List ByteArray} {i : Nat} (h : A.reverse = (ded (zs ks i)).take n) :
    (putA n A (ks.getD i ⟨#[]⟩) i).reverse = (ded (zs ks (i + 1))).take n := by
  rw [put_rev hn hA, h]
  obtain ⟨m, rfl⟩ : ∃ m, n = m + 1 := ⟨n - 1, by omega⟩
  simp only [zs, ded, List.take_succ_cons]
  rw [take_filter _ _ _ (ded_nodup _)]

/-- One of the last n keys is there with its last value. -/
theorem held_there {n : Nat} {A : List KV} {ks : List ByteArray} {i j : Nat} (hj : j < i) (h : A.reverse = (ded (zs ks i)).take n) (hnew : inK (ded ((zs ks i).take j)) (ks.getD (i - 1 - j) ⟨#[]⟩) = false)
    (hroom : (ded ((zs ks i).take j)).length < n) : hasA A (ks.getD (i - 1 - j) ⟨#[]⟩) = true ∧ valA A (ks.getD (i - 1 - j) ⟨#[]⟩) = ((i - 1 - j : Nat) : Int) := by
  have hz := zs_get ks i j hj
  have ht : (zs ks i).take (j + 1) = (zs ks i).take j ++ [(ks.getD (i - 1 - j) ⟨#[]⟩, ((i - 1 - j : Nat) : Int))] := by
    rw [List.take_add_one, hz]; rfl
  have hd : ded ((zs ks i).take (j + 1)) = ded ((zs ks i).take j) ++ [(ks.getD (i - 1 - j) ⟨#[]⟩, ((i - 1 - j : Nat) : Int))] := by
    rw [ht, ded_snoc, hnew]; rfl
  obtain ⟨E, he⟩ := ded_prefix ((zs ks i).take (j + 1)) ((zs ks i).drop (j + 1))
  rw [List.take_append_drop, hd] at he
  have hmem : (ks.getD (i - 1 - j) ⟨#[]⟩, ((i - 1 - j : Nat) : Int)) ∈ (ded (zs ks i)).take n := by
    rw [he, List.append_assoc, List.take_append]
    rw [List.mem_append]; right
    obtain ⟨m, hm⟩ : ∃ m, n - (ded ((zs ks i).take j)).length = m + 1 := ⟨n - (ded ((zs ks i).take j)).length - 1, by omega⟩
    rw [hm]; simp
  rw [← h, List.mem_reverse] at hmem
  have hnd : (A.map (·.1)).Nodup := by
    have h1 : (A.reverse.map (·.1)).Nodup := by rw [h]; exact (ded_nodup _).sublist (List.Sublist.map _ (List.take_sublist _ _))
    rw [List.map_reverse] at h1
    exact (List.reverse_perm _).nodup_iff.1 h1
  refine ⟨by simp only [hasA, List.any_eq_true]; exact ⟨_, hmem, by simp⟩, ?_⟩
  unfold valA
  cases hf : A.find? (fun p => decide (p.1 = ks.getD (i - 1 - j) ⟨#[]⟩)) with
  | none =>
    rw [List.find?_eq_none] at hf
    exact absurd (by simp) (hf _ hmem)
  | some q =>
    have h1 := List.mem_of_find?_eq_some hf
    have h2 := List.find?_some hf
    simp only [decide_eq_true_eq] at h2
    rw [nodup_map_inj (f := fun p : KV => p.1) hnd h1 hmem h2]
    rfl
end Go.Proofs.Ytidcbjgiohkidaa
