/- Texts of one chain, one behind the other: LruQ, HtD, HtE, HtF, HtG, HtH. -/
import Derived.Test.YtemlafbkkaloiaaGreatGLruA
import Derived.Test.YtemlafbkkaloiaaGreatGWinF

/- lru, plain: after some puts the last ones are there. -/
namespace Go.Proofs.YtemlafbkkaloiaaGreat
open Go.RowKit
set_option linter.unusedVariables false
set_option linter.unusedSimpArgs false

abbrev KV := ByteArray × Int
/-- Each key once, at its first place. -/
def ded : List KV → List KV
  | [] => []
  | x :: Z => x :: (ded Z).filter (fun p => !decide (p.1 = x.1))
def inK (D : List KV) (s : ByteArray) : Bool := D.any (fun p => decide (p.1 = s))

theorem inK_filter (D : List KV) (x s : ByteArray) : inK (D.filter (fun p => !decide (p.1 = x))) s = (inK D s && !decide (s = x)) := by
  induction D with
  | nil => rfl
  | cons d D ih =>
    simp only [inK, List.filter_cons, List.any_cons] at ih ⊢
    by_cases h : d.1 = x
    · rw [show (!decide (d.1 = x)) = false by simp [h]]
      simp only [Bool.false_eq_true, if_false, ih]
      by_cases hs : d.1 = s
      · have : s = x := hs.symm.trans h
        simp [this]
      · simp [hs]
    · rw [show (!decide (d.1 = x)) = true by simp [h]]
      simp only [if_true, List.any_cons, ih]
      by_cases hs : d.1 = s
      · have : s ≠ x := fun e => h (hs.trans e)
        simp [hs, this]
      · simp [hs]
theorem ded_snoc : ∀ (Z : List KV) (y : KV), ded (Z ++ [y]) = if inK (ded Z) y.1 then ded Z else ded Z ++ [y]
  | [], y => by simp [ded, inK]
  | x :: Z, y => by
    have ih := ded_snoc Z y
    have hk : inK (ded (x :: Z)) y.1 = (decide (x.1 = y.1) || (inK (ded Z) y.1 && !decide (y.1 = x.1))) := by
      rw [← inK_filter]; rfl
    have e1 : ded (x :: Z ++ [y]) = x :: (ded (Z ++ [y])).filter (fun p => !decide (p.1 = x.1)) := rfl
    have e2 : ded (x :: Z) = x :: (ded Z).filter (fun p => !decide (p.1 = x.1)) := rfl
    rw [e1, ih, hk, e2]
    clear ih hk e1 e2
    cases h1 : inK (ded Z) y.1
    · by_cases h2 : x.1 = y.1
      · simp [List.filter_append, h2]
      · have h3 : y.1 ≠ x.1 := fun e => h2 e.symm
        simp [List.filter_append, h2, h3]
    · by_cases h2 : x.1 = y.1
      · simp [h2]
      · have h3 : y.1 ≠ x.1 := fun e => h2 e.symm
        simp [h2, h3]
theorem ded_prefix (Z W : List KV) : ∃ E, ded (Z ++ W) = ded Z ++ E := by
  induction W generalizing Z with
  | nil => exact ⟨[], by simp⟩
  | cons y W ih =>
    obtain ⟨E, h⟩ := ih (Z ++ [y])
    rw [show Z ++ y :: W = Z ++ [y] ++ W by simp, h, ded_snoc]
    split
    · exact ⟨E, rfl⟩
    · exact ⟨y :: E, by simp⟩
theorem inK_map (D : List KV) (s : ByteArray) : inK D s = true ↔ s ∈ D.map (·.1) := by
  simp only [inK, List.any_eq_true, decide_eq_true_eq, List.mem_map]
theorem ded_nodup : ∀ Z : List KV, ((ded Z).map (·.1)).Nodup
  | [] => by simp [ded]
  | x :: Z => by
    simp only [ded, List.map_cons, List.nodup_cons]
    constructor
    · rw [← inK_map, inK_filter]; simp
    · exact (ded_nodup Z).sublist (List.Sublist.map _ List.filter_sublist)

theorem filter_none {D : List KV} {s : ByteArray} (h : s ∉ D.map (·.1)) : D.filter (fun p => !decide (p.1 = s)) = D := by
  rw [List.filter_eq_self]
  intro p hp
  have : p.1 ≠ s := fun e => h (List.mem_map.2 ⟨p, hp, e⟩)
  simp [this]
/-- A filter that strikes at most one. -/
theorem take_filter (s : ByteArray) : ∀ (D : List KV) (m : Nat), (D.map (·.1)).Nodup → ((D.take (m + 1)).filter (fun p => !decide (p.1 = s))).take m = (D.filter (fun p => !decide (p.1 = s))).take m
  | [], m, _ => by simp
  | d :: D, m, hn => by
    simp only [List.map_cons, List.nodup_cons] at hn
    simp only [List.take_succ_cons, List.filter_cons]
    by_cases h : d.1 = s
    · rw [show (!decide (d.1 = s)) = false by simp [h]]
      simp only [Bool.false_eq_true, if_false]
      have h2 : s ∉ D.map (·.1) := h ▸ hn.1
      rw [filter_none h2, filter_none (D := D.take m)]
      · rw [List.take_take, Nat.min_self]
      · intro hm
        exact h2 ((List.Sublist.map _ (List.take_sublist _ _)).subset hm)
    · rw [show (!decide (d.1 = s)) = true by simp [h]]
      simp only [if_true]
      cases m with
      | zero => simp
      | succ m =>
        simp only [List.take_succ_cons]
        rw [take_filter s D m hn.2]

theorem hasA_inK (A : List KV) (s : ByteArray) : hasA A s = inK A s := rfl
theorem inK_rev (A : List KV) (s : ByteArray) : inK A.reverse s = inK A s := by
  simp [inK]

theorem put_rev {n : Nat} (hn : 1 ≤ n) {A : List KV} (hA : A.length ≤ n) (s : ByteArray) (v : Int) :
    (putA n A s v).reverse = ((s, v) :: A.reverse.filter (fun p => !decide (p.1 = s))).take n := by
  obtain ⟨m, rfl⟩ : ∃ m, n = m + 1 := ⟨n - 1, by omega⟩
  unfold putA
  cases h : hasA A s
  · have hno : s ∉ A.reverse.map (·.1) := by
      rw [← inK_map, inK_rev, ← hasA_inK, h]; simp
    rw [filter_none hno]
    simp only [Bool.false_eq_true, if_false, List.take_succ_cons]
    split
    · rename_i hl
      cases A with
      | nil => simp at hl
      | cons a A =>
        simp only [List.length_cons] at hl
        simp only [List.tail_cons, List.reverse_append, List.reverse_cons, List.reverse_nil, List.nil_append, List.singleton_append]
        rw [List.take_append_of_le_length (by simp; omega), List.take_of_length_le (by simp; omega)]
    · simp only [List.reverse_append, List.reverse_cons, List.reverse_nil, List.nil_append, List.singleton_append]
      rw [List.take_of_length_le (by simp; omega)]
  · simp only [if_true, List.reverse_append, List.reverse_cons, List.reverse_nil, List.nil_append, List.singleton_append, List.take_succ_cons]
    rw [List.take_of_length_le]
    · rw [delA, List.filter_reverse]
    · rw [List.filter_reverse, List.length_reverse]
      have h1 : (A.filter (fun p => !decide (p.1 = s))).length < A.length := by
        rw [List.length_filter_lt_length_iff_exists]
        simp only [hasA, List.any_eq_true] at h
        obtain ⟨p, hp, h⟩ := h
        exact ⟨p, hp, by simp at h; simp [h]⟩
      exact Nat.le_of_lt_succ (Nat.lt_of_lt_of_le h1 hA)

/-- Keys with their places, the last one first. -/
def zs (ks : List ByteArray) : Nat → List KV
  | 0 => []
  | i + 1 => (ks.getD i ⟨#[]⟩, (i : Int)) :: zs ks i
theorem zs_len (ks : List ByteArray) : ∀ i, (zs ks i).length = i
  | 0 => rfl
  | i + 1 => by simp [zs, zs_len ks i]
theorem zs_get (ks : List ByteArray) : ∀ i j, j < i → (zs ks i)[j]? = some (ks.getD (i - 1 - j) ⟨#[]⟩, ((i - 1 - j : Nat) : Int))
  | 0, j, h => by omega
  | i + 1, 0, h => by simp [zs]
  | i + 1, j + 1, h => by
    simp only [zs, List.getElem?_cons_succ]
    rw [zs_get ks i j (by omega)]
    rw [show i + 1 - 1 - (j + 1) = i - 1 - j by omega]

/-- What a map of n keys holds behind i puts. -/
theorem held_next {n : Nat} (hn : 1 ≤ n) {A : List KV} (hA : A.length ≤ n) {ks : List ByteArray} {i : Nat} (h : A.reverse = (ded (zs ks i)).take n) :
    (putA n A (ks.getD i ⟨#[]⟩) i).reverse = (ded (zs ks (i + 1))).take n := by
  rw [put_rev hn hA, h]
  obtain ⟨m, rfl⟩ : ∃ m, n = m + 1 := ⟨n - 1, by omega⟩
  simp only [zs, ded, List.take_succ_cons]
  rw [take_filter _ _ _ (ded_nodup _)]

/-- One of the last n keys is there with its last value. -/
theorem held_there {n : Nat} {A : List KV} {ks : List ByteArray} {i j : Nat} (hj : j < i) (h : A.reverse = (ded (zs ks i)).take n) (hnew : inK (ded ((zs ks i).take j)) (ks.getD (i - 1 - j) ⟨#[]⟩) = false)
    (hroom : (ded ((zs ks i).take j)).length < n) : hasA A (ks.getD (i - 1 - j) ⟨#[]⟩) = true ∧ valA A (ks.getD (i - 1 - j) ⟨#[]⟩) = ((i - 1 - j : Nat) : Int) := by
  have hz := zs_get ks i j hj
  have ht : (zs ks i).take (j + 1) = (zs ks i).take j ++ [(ks.getD (i - 1 - j) ⟨#[]⟩, ((i - 1 - j : Nat) : Int))] := by
    rw [List.take_add_one, hz]; rfl
  have hd : ded ((zs ks i).take (j + 1)) = ded ((zs ks i).take j) ++ [(ks.getD (i - 1 - j) ⟨#[]⟩, ((i - 1 - j : Nat) : Int))] := by
    rw [ht, ded_snoc, hnew]; rfl
  obtain ⟨E, he⟩ := ded_prefix ((zs ks i).take (j + 1)) ((zs ks i).drop (j + 1))
  rw [List.take_append_drop, hd] at he
  have hmem : (ks.getD (i - 1 - j) ⟨#[]⟩, ((i - 1 - j : Nat) : Int)) ∈ (ded (zs ks i)).take n := by
    rw [he, List.append_assoc, List.take_append]
    rw [List.mem_append]; right
    obtain ⟨m, hm⟩ : ∃ m, n - (ded ((zs ks i).take j)).length = m + 1 := ⟨n - (ded ((zs ks i).take j)).length - 1, by omega⟩
    rw [hm]; simp
  rw [← h, List.mem_reverse] at hmem
  have hnd : (A.map (·.1)).Nodup := by
    have h1 : (A.reverse.map (·.1)).Nodup := by rw [h]; exact (ded_nodup _).sublist (List.Sublist.map _ (List.take_sublist _ _))
    rw [List.map_reverse] at h1
    exact (List.reverse_perm _).nodup_iff.1 h1
  refine ⟨by simp only [hasA, List.any_eq_true]; exact ⟨_, hmem, by simp⟩, ?_⟩
  unfold valA
  cases hf : A.find? (fun p => decide (p.1 = ks.getD (i - 1 - j) ⟨#[]⟩)) with
  | none =>
    rw [List.find?_eq_none] at hf
    exact absurd (by simp) (hf _ hmem)
  | some q =>
    have h1 := List.mem_of_find?_eq_some hf
    have h2 := List.find?_some hf
    simp only [decide_eq_true_eq] at h2
    rw [nodup_map_inj (f := fun p : KV => p.1) hnd h1 hmem h2]
    rfl
end Go.Proofs.YtemlafbkkaloiaaGreat

/- hot: what turns, part by part. -/
namespace Go.Proofs.YtemlafbkkaloiaaGreat
open Go.RowKit
set_option linter.unusedVariables false
set_option linter.unusedSimpArgs false

/-! ### plain -/
theorem findW_none {WS : List HW} {k : ByteArray} : findW WS k = none ↔ k ∉ WS.map (·.key) := by
  unfold findW
  rw [List.find?_eq_none]
  constructor
  · intro h hm
    obtain ⟨x, hx, rfl⟩ := List.mem_map.1 hm
    have := h x hx
    simp at this
  · intro h x hx
    simp only [decide_eq_true_eq]
    intro e
    exact h (List.mem_map.2 ⟨x, hx, e⟩)
theorem findW_some {WS : List HW} (hn : (WS.map (·.key)).Nodup) {x : HW} (hx : x ∈ WS) : findW WS x.key = some x := by
  cases hf : findW WS x.key with
  | none => exact absurd (List.mem_map.2 ⟨x, hx, rfl⟩) (findW_none.1 hf)
  | some y =>
    obtain ⟨h1, h2⟩ := findW_mem hf
    rw [nodup_map_inj hn h1 hx h2]
theorem findW_snoc (WS : List HW) (x : HW) (k : ByteArray) : findW (WS ++ [x]) k = (findW WS k).or (if x.key = k then some x else none) := by
  unfold findW
  rw [List.find?_append]
  by_cases e : x.key = k
  · simp [e]
  · simp [e]
def delW (WS : List HW) (g : ByteArray) : List HW := WS.filter (fun x => !decide (x.key = g))
theorem findW_del (WS : List HW) (g k : ByteArray) : findW (delW WS g) k = if k = g then none else findW WS k := by
  unfold findW delW
  induction WS with
  | nil => simp
  | cons x WS ih =>
    rw [List.filter_cons]
    by_cases e : x.key = g
    · rw [if_neg (by simp [e]), ih]
      by_cases e2 : k = g
      · rw [if_pos e2, if_pos e2]
      · rw [if_neg e2, if_neg e2, List.find?_cons]
        have : decide (x.key = k) = false := decide_eq_false (fun h => e2 (h.symm.trans e))
        rw [this]
    · rw [if_pos (by simp [e]), List.find?_cons, ih]
      by_cases e2 : x.key = k
      · have e3 : k ≠ g := fun h => e (e2.trans h)
        simp [e2, e3]
      · simp only [decide_eq_false e2]
        by_cases e3 : k = g
        · rw [if_pos e3, if_pos e3]
        · rw [if_neg e3, if_neg e3, List.find?_cons, decide_eq_false e2]
theorem delW_len {WS : List HW} (hn : (WS.map (·.key)).Nodup) {g : ByteArray} (h : (findW WS g).isSome = true) : (delW WS g).length + 1 = WS.length := by
  induction WS with
  | nil => simp [findW] at h
  | cons x WS ih =>
    obtain ⟨h1, h2⟩ := List.nodup_cons.1 hn
    unfold delW
    rw [List.filter_cons]
    by_cases e : x.key = g
    · rw [if_neg (by simp [e])]
      have : WS.filter (fun x => !decide (x.key = g)) = WS := List.filter_eq_self.2 (fun y hy => by
        simp only [Bool.not_eq_true', decide_eq_false_iff_not]
        intro e2
        exact h1 (List.mem_map.2 ⟨y, hy, e2.trans e.symm⟩))
      rw [this]; rfl
    · rw [if_pos (by simp [e])]
      have h3 : (findW WS g).isSome = true := by
        unfold findW at h ⊢
        rwa [List.find?_cons, decide_eq_false e] at h
      have := ih h2 h3
      unfold delW at this
      simp only [List.length_cons]
      omega
def updW (WS : List HW) (k : ByteArray) (at_ : Int) (ns : List NoteW) : List HW := WS.map (fun x => if x.key = k then ⟨x.key, x.p, x.m, at_, x.notes ++ ns⟩ else x)
theorem updW_keys (WS : List HW) (k : ByteArray) (at_ : Int) (ns : List NoteW) : (updW WS k at_ ns).map (·.key) = WS.map (·.key) := by
  unfold updW
  rw [List.map_map]
  apply List.map_congr_left
  intro x _
  show (if x.key = k then (⟨x.key, x.p, x.m, at_, x.notes ++ ns⟩ : HW) else x).key = x.key
  split <;> rfl
theorem updW_ps (WS : List HW) (k : ByteArray) (at_ : Int) (ns : List NoteW) : (updW WS k at_ ns).map (·.p) = WS.map (·.p) := by
  unfold updW
  rw [List.map_map]
  apply List.map_congr_left
  intro x _
  show (if x.key = k then (⟨x.key, x.p, x.m, at_, x.notes ++ ns⟩ : HW) else x).p = x.p
  split <;> rfl
theorem findW_upd (WS : List HW) (k q : ByteArray) (at_ : Int) (ns : List NoteW) : findW (updW WS k at_ ns) q = (findW WS q).map (fun x => if x.key = k then ⟨x.key, x.p, x.m, at_, x.notes ++ ns⟩ else x) := by
  unfold findW updW
  induction WS with
  | nil => rfl
  | cons x WS ih =>
    rw [List.map_cons, List.find?_cons, List.find?_cons]
    have : (if x.key = k then (⟨x.key, x.p, x.m, at_, x.notes ++ ns⟩ : HW) else x).key = x.key := by split <;> rfl
    rw [this]
    cases decide (x.key = q) with
    | true => rfl
    | false => exact ih
theorem updW_mem {WS : List HW} {k : ByteArray} {at_ : Int} {ns : List NoteW} {y : HW} (h : y ∈ updW WS k at_ ns) : ∃ x, x ∈ WS ∧ y.p = x.p ∧ y.m = x.m ∧ y.key = x.key ∧ ((x.key = k ∧ y.last = at_ ∧ y.notes = x.notes ++ ns) ∨ (x.key ≠ k ∧ y = x)) := by
  obtain ⟨x, hx, rfl⟩ := List.mem_map.1 h
  refine ⟨x, hx, ?_⟩
  by_cases e : x.key = k
  · rw [if_pos e]; exact ⟨rfl, rfl, rfl, Or.inl ⟨e, rfl, rfl⟩⟩
  · rw [if_neg e]; exact ⟨rfl, rfl, rfl, Or.inr ⟨e, rfl⟩⟩
/-- What a putting in leaves of the keys. -/
theorem hasA_put {n : Nat} (hn : 1 ≤ n) {A : List (ByteArray × Int)} (hk : (A.map (·.1)).Nodup) (s : ByteArray) (v : Int) (k : ByteArray) :
    hasA (putA n A s v) k = (decide (k = s) || (hasA A k && !(wentA n A s && decide (k = goneA n A s)))) := by
  have e1 : ∀ B : List (ByteArray × Int), hasA (B ++ [(s, v)]) k = (hasA B k || decide (k = s)) := fun B => by
    unfold hasA
    rw [List.any_append]
    have : decide (s = k) = decide (k = s) := decide_eq_decide.2 eq_comm
    simp [this]
  unfold putA wentA goneA
  cases hh : hasA A s with
  | true =>
    rw [if_pos rfl, e1]
    have : hasA (delA A s) k = (hasA A k && !decide (k = s)) := by
      unfold hasA delA
      rw [List.any_filter]
      induction A with
      | nil => rfl
      | cons p A ih =>
        have ih := ih (List.nodup_cons.1 hk).2
        by_cases hA : hasA A s = true
        · have ih := ih hA
          rw [List.any_cons, List.any_cons, ih]
          by_cases e : p.1 = k
          · by_cases e2 : k = s <;> simp [e, e2]
          · simp [e]
        · have e3 : p.1 = s := by
            unfold hasA at hh hA
            rw [List.any_cons] at hh
            simp only [Bool.not_eq_true] at hA
            rw [hA] at hh
            simpa using hh
          have e4 : ∀ y ∈ A, (decide (y.1 = k) && !decide (y.1 = s)) = decide (y.1 = k) := fun y hy => by
            have : y.1 ≠ s := fun e => (List.nodup_cons.1 hk).1 (List.mem_map.2 ⟨y, hy, e.trans e3.symm⟩)
            simp [this]
          have e5 : (A.any fun a => !decide (a.1 = s) && decide (a.1 = k)) = A.any (fun a => decide (a.1 = k)) := by
            rw [Bool.eq_iff_iff, List.any_eq_true, List.any_eq_true]
            constructor
            · rintro ⟨y, hy, h⟩; exact ⟨y, hy, by simp at h; simpa using h.2⟩
            · rintro ⟨y, hy, h⟩; exact ⟨y, hy, by have := e4 y hy; rw [Bool.and_comm]; rw [this]; exact h⟩
          rw [List.any_cons, List.any_cons, e5]
          by_cases e : k = s
          · subst e
            have : (A.any fun a => decide (a.1 = k)) = false := by
              simp only [Bool.not_eq_true] at hA
              exact hA
            rw [this]; simp [e3]
          · have : p.1 ≠ k := fun h => e (h.symm.trans e3)
            simp [this, e]
    rw [this]
    cases hasA A k <;> cases decide (k = s) <;> rfl
  | false =>
    rw [if_neg (by simp)]
    by_cases hl : A.length = n
    · rw [if_pos hl, e1]
      have hne : A ≠ [] := by intro h; rw [h] at hl; simp at hl; omega
      obtain ⟨p, B, rfl⟩ := List.exists_cons_of_ne_nil hne
      obtain ⟨h1, h2⟩ := List.nodup_cons.1 hk
      have hp : hasA (p :: B) k = (decide (p.1 = k) || hasA B k) := rfl
      rw [if_neg (by simp), if_pos hl, hp]
      have hb : decide (p.1 = k) = true → hasA B k = false := fun e => by
        simp only [decide_eq_true_eq] at e
        unfold hasA
        rw [List.any_eq_false]
        intro y hy
        simp only [decide_eq_true_eq]
        exact fun e2 => h1 (List.mem_map.2 ⟨y, hy, e2.trans e.symm⟩)
      have hd : decide (k = p.1) = decide (p.1 = k) := decide_eq_decide.2 eq_comm
      show (hasA B k || decide (k = s)) = (decide (k = s) || ((decide (p.1 = k) || hasA B k) && !((!false && decide ((p :: B).length = n)) && decide (k = (((p :: B).head?).map (·.1)).getD ⟨#[]⟩))))
      rw [decide_eq_true hl]
      show (hasA B k || decide (k = s)) = (decide (k = s) || ((decide (p.1 = k) || hasA B k) && !(true && decide (k = p.1))))
      rw [hd]
      cases hpk : decide (p.1 = k) with
      | true => rw [hb hpk]; cases decide (k = s) <;> rfl
      | false => cases hasA B k <;> cases decide (k = s) <;> rfl
    · rw [if_neg hl, e1, decide_eq_false hl]
      cases hasA A k <;> cases decide (k = s) <;> rfl
end Go.Proofs.YtemlafbkkaloiaaGreat

/- hot: the steps of what turns in memory. -/
namespace Go.Proofs.YtemlafbkkaloiaaGreat
open Go.RowKit
set_option linter.unusedVariables false
set_option linter.unusedSimpArgs false

variable {w w' : World} {c : HotC} {s : HotV}
/-- Where the blocks of other parts are as they were. -/
theorem HotCore.keep (k : HotCore w c s) {col : Nat → Nat} (hc : HotCol c s col) {S : Nat → Prop} (ho : Off S w w') (n : Nat) (hS : ∀ i, S i → col i = n) {i : Nat} (hi : i < w.heap.size) (hne : col i ≠ n) : w'.heap[i]? = w.heap[i]? :=
  ho.block i hi (fun h => hne (hS i h))
theorem HotCore.hbLt (k : HotCore w c s) : c.hb < w.heap.size := k.lt (Or.inr (Or.inr (Or.inr (Or.inl rfl))))
theorem HotCore.mwLt (k : HotCore w c s) : c.mw < w.heap.size := k.lt (Or.inr (Or.inr (Or.inl rfl)))
theorem HotCore.winLt (k : HotCore w c s) {x : HW} (hx : x ∈ s.WS) : x.p < w.heap.size ∧ x.m < w.heap.size := (k.wins x hx).1.lt
/-- The map of keys turns. -/
theorem HotCore.lruStep (k : HotCore w c s) {L' : List LNode} (h1 : Lru w' c.B c.M c.N L') (ho : Off (Lown c.B c.M s.L) w w') (hs : ∀ b, Lown c.B c.M L' b → Lown c.B c.M s.L b ∨ w.heap.size ≤ b) : HotCore w' c { s with L := L' } := by
  obtain ⟨col, hc⟩ := k.col
  have hk := fun {i : Nat} (hi : i < w.heap.size) (hne : col i ≠ 1) => k.keep hc ho 1 hc.lru hi hne
  refine ⟨(hk k.hbLt (by rw [hc.head]; omega)).trans k.head, k.ok.kept ho.size (fun g off e => hk (k.ilt g off e) (by rw [hc.items g off e]; omega)), k.fine, fun g off e => Nat.lt_of_lt_of_le (k.ilt g off e) ho.size, h1, ?_, fun x hx => ?_, ⟨k.sk.at_.kept (fun i hi => hk (k.sk.at_.lt hi) (by rw [hc.sk i hi]; omega)), k.sk.inv⟩, k.lsl, k.skf, k.l0, k.l1, k.keys, k.ps, k.s0, k.s1, fun i => if i < w.heap.size then col i else 1, ?_⟩
  · obtain ⟨F, n, h1, h2, h3⟩ := k.wmap
    exact ⟨F, n, h1.kept (hk k.mwLt (by rw [hc.map]; omega)), h2, h3⟩
  · obtain ⟨h1, h2⟩ := k.wins x hx
    have hx2 := hc.wins x hx
    exact ⟨h1.kept (hk h1.lt.1 (by rw [hx2.1]; omega)) (hk h1.lt.2 (by rw [hx2.2]; omega)), h2⟩
  · have old : ∀ {i : Nat}, i < w.heap.size → (if i < w.heap.size then col i else 1) = col i := fun hi => if_pos hi
    refine ⟨fun i hi => ?_, fun i hi => (old (k.sk.at_.lt hi)).trans (hc.sk i hi), (old k.mwLt).trans hc.map, (old k.hbLt).trans hc.head, fun g off e => (old (k.ilt g off e)).trans (hc.items g off e), fun x hx => ⟨(old (k.winLt hx).1).trans (hc.wins x hx).1, (old (k.winLt hx).2).trans (hc.wins x hx).2⟩⟩
    show (if i < w.heap.size then col i else _) = _
    split
    · rename_i hlt
      rcases hs i hi with h | h
      · exact hc.lru i h
      · omega
    · rfl
/-- The sketch turns. -/
theorem HotCore.skStep (k : HotCore w c s) {ls : Int} {sn : List NoteS} {v' : Value} {bs' : List BkS} (h1 : SkInv w' c.sb c.sh (c.R.secs * 100000) ls sn v' bs') (hl : ls ≤ s.last) (hbl : bs'.length ≤ 1099511627777) (ho : Off (SkOwn c.sb s.v s.bs) w w') (hs : ∀ i, SkOwn c.sb v' bs' i → SkOwn c.sb s.v s.bs i ∨ w.heap.size ≤ i) : HotCore w' c { s with ls := ls, sn := sn, v := v', bs := bs' } := by
  obtain ⟨col, hc⟩ := k.col
  have hk := fun {i : Nat} (hi : i < w.heap.size) (hne : col i ≠ 2) => k.keep hc ho 2 hc.sk hi hne
  refine ⟨(hk k.hbLt (by rw [hc.head]; omega)).trans k.head, k.ok.kept ho.size (fun g off e => hk (k.ilt g off e) (by rw [hc.items g off e]; omega)), k.fine, fun g off e => Nat.lt_of_lt_of_le (k.ilt g off e) ho.size, k.lru.kept (fun i hi => hk (k.lru.lt hi) (by rw [hc.lru i hi]; omega)), ?_, fun x hx => ?_, h1, hl, hbl, k.l0, k.l1, k.keys, k.ps, k.s0, k.s1, fun i => if i < w.heap.size then col i else 2, ?_⟩
  · obtain ⟨F, n, h1, h2, h3⟩ := k.wmap
    exact ⟨F, n, h1.kept (hk k.mwLt (by rw [hc.map]; omega)), h2, h3⟩
  · obtain ⟨h1, h2⟩ := k.wins x hx
    have hx2 := hc.wins x hx
    exact ⟨h1.kept (hk h1.lt.1 (by rw [hx2.1]; omega)) (hk h1.lt.2 (by rw [hx2.2]; omega)), h2⟩
  · have old : ∀ {i : Nat}, i < w.heap.size → (if i < w.heap.size then col i else 2) = col i := fun hi => if_pos hi
    refine ⟨fun i hi => (old (k.lru.lt hi)).trans (hc.lru i hi), fun i hi => ?_, (old k.mwLt).trans hc.map, (old k.hbLt).trans hc.head, fun g off e => (old (k.ilt g off e)).trans (hc.items g off e), fun x hx => ⟨(old (k.winLt hx).1).trans (hc.wins x hx).1, (old (k.winLt hx).2).trans (hc.wins x hx).2⟩⟩
    show (if i < w.heap.size then col i else _) = _
    split
    · rename_i hlt
      rcases hs i hi with h | h
      · exact hc.sk i h
      · omega
    · rfl
/-- One window turns. -/
theorem HotCore.winStep (k : HotCore w c s) {x : HW} (hx : x ∈ s.WS) {at_ : Int} {ns : List NoteW} (h1 : WinN w' x.p x.m c.W 10 at_ (x.notes ++ ns)) (hl : at_ ≤ s.last) (ho : Off (fun i => i = x.p ∨ i = x.m) w w') : HotCore w' c { s with WS := updW s.WS x.key at_ ns } := by
  obtain ⟨col, hc⟩ := k.col
  have hx2 := hc.wins x hx
  have hk := fun {i : Nat} (hi : i < w.heap.size) (hne : col i ≠ 6 + x.p) => k.keep hc ho (6 + x.p) (fun i h => by rcases h with rfl | rfl; exact hx2.1; exact hx2.2) hi hne
  refine ⟨(hk k.hbLt (by rw [hc.head]; omega)).trans k.head, k.ok.kept ho.size (fun g off e => hk (k.ilt g off e) (by rw [hc.items g off e]; omega)), k.fine, fun g off e => Nat.lt_of_lt_of_le (k.ilt g off e) ho.size, k.lru.kept (fun i hi => hk (k.lru.lt hi) (by rw [hc.lru i hi]; omega)), ?_, fun y hy => ?_, ⟨k.sk.at_.kept (fun i hi => hk (k.sk.at_.lt hi) (by rw [hc.sk i hi]; omega)), k.sk.inv⟩, k.lsl, k.skf, k.l0, k.l1, ?_, ?_, k.s0, k.s1, col, ?_⟩
  · obtain ⟨F, n, h1, h2, h3⟩ := k.wmap
    refine ⟨F, n, h1.kept (hk k.mwLt (by rw [hc.map]; omega)), ?_, fun q hq => ?_⟩
    · show n ≤ (updW s.WS x.key at_ ns).length
      unfold updW
      rw [List.length_map]; exact h2
    · rw [h3 q hq]
      show _ = (findW (updW s.WS x.key at_ ns) q).map _
      rw [findW_upd]
      cases findW s.WS q with
      | none => rfl
      | some y =>
        simp only [Option.map_some]
        split <;> rfl
  · obtain ⟨z, hz, e1, e2, e3, h⟩ := updW_mem hy
    rcases h with ⟨hk1, hk2, hk3⟩ | ⟨hne, rfl⟩
    · have : z = x := nodup_map_inj k.keys hz hx hk1
      subst this
      rw [e1, e2, hk2, hk3]
      exact ⟨h1, hl⟩
    · obtain ⟨g1, g2⟩ := k.wins y hz
      have hy2 := hc.wins y hz
      have hpp : y.p ≠ x.p := fun e => hne (by rw [nodup_map_inj k.ps hz hx e])
      exact ⟨g1.kept (hk g1.lt.1 (by rw [hy2.1]; omega)) (hk g1.lt.2 (by rw [hy2.2]; omega)), g2⟩
  · show ((updW s.WS x.key at_ ns).map _).Nodup
    rw [updW_keys]; exact k.keys
  · show ((updW s.WS x.key at_ ns).map _).Nodup
    rw [updW_ps]; exact k.ps
  · refine ⟨hc.lru, hc.sk, hc.map, hc.head, hc.items, fun y hy => ?_⟩
    obtain ⟨z, hz, e1, e2, _⟩ := updW_mem hy
    rw [e1, e2]
    exact hc.wins z hz
/-- Its last time turns. -/
theorem HotCore.headStep (k : HotCore w c s) {at_ : Int} (h0 : s.last ≤ at_) (h1 : at_ ≤ 1152921504606846976) : HotCore (w.setCell ⟨c.hb, 8, none⟩ (.int .i64 at_)) c { s with last := at_ } ∧ Off (fun i => i = c.hb) w (w.setCell ⟨c.hb, 8, none⟩ (.int .i64 at_)) := by
  obtain ⟨col, hc⟩ := k.col
  have ho : Off (fun i => i = c.hb) w (w.setCell ⟨c.hb, 8, none⟩ (.int .i64 at_)) := Off.setCell (S := fun i => i = c.hb) (Off.refl _ w) (p := ⟨c.hb, 8, none⟩) (fun _ => rfl) _
  have hk := fun {i : Nat} (hi : i < w.heap.size) (hne : col i ≠ 4) => k.keep hc ho 4 (fun i h => by rw [h]; exact hc.head) hi hne
  have hl := k.l0
  refine ⟨⟨heap_setCell_same _ _ 8 _ _ _ k.head, k.ok.kept ho.size (fun g off e => hk (k.ilt g off e) (by rw [hc.items g off e]; omega)), k.fine, fun g off e => Nat.lt_of_lt_of_le (k.ilt g off e) ho.size, k.lru.kept (fun i hi => hk (k.lru.lt hi) (by rw [hc.lru i hi]; omega)), ?_, fun x hx => ?_, ⟨k.sk.at_.kept (fun i hi => hk (k.sk.at_.lt hi) (by rw [hc.sk i hi]; omega)), k.sk.inv⟩, Int.le_trans k.lsl h0, k.skf, by show 0 ≤ at_; omega, h1, k.keys, k.ps, k.s0, k.s1, col, hc.lru, hc.sk, hc.map, hc.head, hc.items, hc.wins⟩, ho⟩
  · obtain ⟨F, n, h1, h2, h3⟩ := k.wmap
    exact ⟨F, n, h1.kept (hk k.mwLt (by rw [hc.map]; omega)), h2, h3⟩
  · obtain ⟨h1, h2⟩ := k.wins x hx
    have hx2 := hc.wins x hx
    exact ⟨h1.kept (hk h1.lt.1 (by rw [hx2.1]; omega)) (hk h1.lt.2 (by rw [hx2.2]; omega)), Int.le_trans h2 h0⟩
theorem Off.ofGrown {w w' : World} {b : Nat} (h : w.grownBy w' (some b)) : Off (fun i => i = b) w w' := ⟨h.os, h.tape, h.output, h.size, fun i hi hn => h.block i hi (fun e => hn (by injection e))⟩
/-- A window goes out of the map. -/
theorem HotCore.mapDel (k : HotCore w c s) {g : ByteArray} (hg : g.size ≤ maxLen) (hin : (findW s.WS g).isSome = true) : ∃ w', (∀ ty, (Builtin.delete_ #[61, 9] ty #[.map (some c.mw), .string g]).run Tryz.prog w = .ok (.tuple #[]) w') ∧ HotCore w' c { s with WS := delW s.WS g } ∧ Off (fun i => i = c.mw) w w' := by
  obtain ⟨col, hc⟩ := k.col
  obtain ⟨F, n, m1, m2, m3⟩ := k.wmap
  obtain ⟨w', hrun, m4, hgr⟩ := m1.delete strKeyed under_mapW (skeyOf hg)
  have ho := Off.ofGrown hgr
  have hk := fun {i : Nat} (hi : i < w.heap.size) (hne : col i ≠ 3) => k.keep hc ho 3 (fun i h => by rw [h]; exact hc.map) hi hne
  have hsub : ∀ x, x ∈ delW s.WS g → x ∈ s.WS := fun x hx => (List.mem_filter.1 hx).1
  refine ⟨w', hrun, ⟨(hk k.hbLt (by rw [hc.head]; omega)).trans k.head, k.ok.kept ho.size (fun g off e => hk (k.ilt g off e) (by rw [hc.items g off e]; omega)), k.fine, fun g off e => Nat.lt_of_lt_of_le (k.ilt g off e) ho.size, k.lru.kept (fun i hi => hk (k.lru.lt hi) (by rw [hc.lru i hi]; omega)), ⟨_, _, m4, ?_, fun q hq => ?_⟩, fun x hx => ?_, ⟨k.sk.at_.kept (fun i hi => hk (k.sk.at_.lt hi) (by rw [hc.sk i hi]; omega)), k.sk.inv⟩, k.lsl, k.skf, k.l0, k.l1, k.keys.sublist (List.Sublist.map _ List.filter_sublist), k.ps.sublist (List.Sublist.map _ List.filter_sublist), k.s0, k.s1, col, hc.lru, hc.sk, hc.map, hc.head, hc.items, fun x hx => hc.wins x (hsub x hx)⟩, ho⟩
  · show _ ≤ (delW s.WS g).length
    have hl := delW_len k.keys hin
    rw [m3 g hg]
    cases hf : findW s.WS g with
    | none => rw [hf] at hin; cases hin
    | some x => simp only [Option.map_some, Option.isSome_some, if_true]; omega
  · show _ = (findW (delW s.WS g) q).map _
    rw [findW_del]
    by_cases e : q = g
    · subst e; rw [updV_same, if_pos rfl]; rfl
    · rw [updV_other _ _ (fun h => e (by injection h)), if_neg e, m3 q hq]
  · obtain ⟨h1, h2⟩ := k.wins x (hsub x hx)
    have hx2 := hc.wins x (hsub x hx)
    exact ⟨h1.kept (hk h1.lt.1 (by rw [hx2.1]; omega)) (hk h1.lt.2 (by rw [hx2.2]; omega)), h2⟩
/-- A new window goes into the map. -/
theorem HotCore.mapPut (k : HotCore w c s) {x : HW} (hg : x.key.size ≤ maxLen) (hno : findW s.WS x.key = none) (hw : WinN w x.p x.m c.W 10 x.last x.notes) (hl : x.last ≤ s.last) (hown : ∀ i, HOwn c s i → i ≠ x.p ∧ i ≠ x.m) (hit : ∀ g off, c.R.ia = some ⟨g, off, none⟩ → g ≠ x.p ∧ g ≠ x.m) (hfew : s.WS.length < maxLen) :
    ∃ w', (Instr.mapUpdate 61 (.map (some c.mw)) (.string x.key) (.pointer (some ⟨x.p, 0, none⟩))).run Tryz.prog w = .ok () w' ∧ HotCore w' c { s with WS := s.WS ++ [x] } ∧ Off (fun i => i = c.mw) w w' := by
  obtain ⟨col, hc⟩ := k.col
  obtain ⟨F, n, m1, m2, m3⟩ := k.wmap
  obtain ⟨w', hrun, m4, hgr, _⟩ := m1.update strKeyed under_mapW (Nat.lt_of_le_of_lt m2 hfew) (skeyOf hg) (.pointer (some ⟨x.p, 0, none⟩))
  have ho := Off.ofGrown hgr
  have hk := fun {i : Nat} (hi : i < w.heap.size) (hne : col i ≠ 3) => k.keep hc ho 3 (fun i h => by rw [h]; exact hc.map) hi hne
  have hmw := hown c.mw (Or.inr (Or.inr (Or.inl rfl)))
  refine ⟨w', hrun, ⟨(hk k.hbLt (by rw [hc.head]; omega)).trans k.head, k.ok.kept ho.size (fun g off e => hk (k.ilt g off e) (by rw [hc.items g off e]; omega)), k.fine, fun g off e => Nat.lt_of_lt_of_le (k.ilt g off e) ho.size, k.lru.kept (fun i hi => hk (k.lru.lt hi) (by rw [hc.lru i hi]; omega)), ⟨_, _, m4, ?_, fun q hq => ?_⟩, fun y hy => ?_, ⟨k.sk.at_.kept (fun i hi => hk (k.sk.at_.lt hi) (by rw [hc.sk i hi]; omega)), k.sk.inv⟩, k.lsl, k.skf, k.l0, k.l1, ?_, ?_, k.s0, k.s1, fun i => if i = x.p ∨ i = x.m then 6 + x.p else col i, ?_⟩, ho⟩
  · show _ ≤ (s.WS ++ [x]).length
    rw [List.length_append, List.length_singleton]
    split <;> omega
  · show _ = (findW (s.WS ++ [x]) q).map _
    rw [findW_snoc]
    by_cases e : x.key = q
    · subst e; rw [updV_same, hno, if_pos rfl]; rfl
    · rw [updV_other _ _ (fun h => e (Value.string.inj h).symm), if_neg e, m3 q hq]
      cases findW s.WS q <;> rfl
  · rcases List.mem_append.1 hy with hy | hy
    · obtain ⟨h1, h2⟩ := k.wins y hy
      have hx2 := hc.wins y hy
      exact ⟨h1.kept (hk h1.lt.1 (by rw [hx2.1]; omega)) (hk h1.lt.2 (by rw [hx2.2]; omega)), h2⟩
    · obtain rfl := List.mem_singleton.1 hy
      exact ⟨hw.kept (ho.block _ hw.lt.1 (fun e => hmw.1 e.symm)) (ho.block _ hw.lt.2 (fun e => hmw.2 e.symm)), hl⟩
  · show ((s.WS ++ [x]).map _).Nodup
    rw [List.map_append]
    exact List.nodup_append.2 ⟨k.keys, by simp, by intro a ha b hb; simp at hb; subst hb; exact fun e => findW_none.1 hno (e ▸ ha)⟩
  · show ((s.WS ++ [x]).map _).Nodup
    rw [List.map_append]
    refine List.nodup_append.2 ⟨k.ps, by simp, ?_⟩
    intro a ha b hb
    simp at hb
    subst hb
    obtain ⟨y, hy, rfl⟩ := List.mem_map.1 ha
    exact (hown y.p (Or.inr (Or.inr (Or.inr (Or.inr ⟨y, hy, Or.inl rfl⟩))))).1
  · have old : ∀ {i : Nat}, i ≠ x.p → i ≠ x.m → (if i = x.p ∨ i = x.m then 6 + x.p else col i) = col i := fun h1 h2 => if_neg (by rintro (h | h); exact h1 h; exact h2 h)
    have oo : ∀ {i : Nat}, HOwn c s i → (if i = x.p ∨ i = x.m then 6 + x.p else col i) = col i := fun h => old (hown _ h).1 (hown _ h).2
    refine ⟨fun i hi => (oo (Or.inl hi)).trans (hc.lru i hi), fun i hi => (oo (Or.inr (Or.inl hi))).trans (hc.sk i hi), (oo (Or.inr (Or.inr (Or.inl rfl)))).trans hc.map, (oo (Or.inr (Or.inr (Or.inr (Or.inl rfl))))).trans hc.head, fun g off e => (old (hit g off e).1 (hit g off e).2).trans (hc.items g off e), fun y hy => ?_⟩
    rcases List.mem_append.1 hy with hy | hy
    · exact ⟨(oo (Or.inr (Or.inr (Or.inr (Or.inr ⟨y, hy, Or.inl rfl⟩))))).trans (hc.wins y hy).1, (oo (Or.inr (Or.inr (Or.inr (Or.inr ⟨y, hy, Or.inr rfl⟩))))).trans (hc.wins y hy).2⟩
    · obtain rfl := List.mem_singleton.1 hy
      exact ⟨if_pos (Or.inl rfl), if_pos (Or.inr rfl)⟩
end Go.Proofs.YtemlafbkkaloiaaGreat

/- hot: keep. -/
namespace Go.Proofs.YtemlafbkkaloiaaGreat
open Go.RowKit
set_option linter.unusedVariables false
set_option linter.unusedSimpArgs false

/-- From one state to another. -/
structure HStep (w w' : World) (c : HotC) (s s' : HotV) : Prop where
  core : HotCore w' c s'
  off : Off (HOwn c s) w w'
  own : ∀ i, HOwn c s' i → HOwn c s i ∨ w.heap.size ≤ i
theorem HStep.trans {a b d : World} {c : HotC} {s t u : HotV} (h : HStep a b c s t) (k : HStep b d c t u) : HStep a d c s u := by
  have hz := h.off.size
  refine ⟨k.core, h.off.trans k.off (fun i hi hs => ?_), fun i hi => ?_⟩
  · rcases h.own i hs with h1 | h1
    · exact h1
    · omega
  · rcases k.own i hi with h1 | h1
    · exact h.own i h1
    · exact Or.inr (by omega)
theorem HStep.refl {w : World} {c : HotC} {s : HotV} (k : HotCore w c s) : HStep w w c s s := ⟨k, Off.refl _ _, fun i hi => Or.inl hi⟩
theorem HStep.below {w w' : World} {c : HotC} {s : HotV} (k : HotCore w c s) (hb : Below w.heap.size w w') : HStep w w' c s s := ⟨k.below hb, Off.ofBelow hb, fun i hi => Or.inl hi⟩
variable {w w' : World} {c : HotC} {s : HotV}
theorem HStep.lru (k : HotCore w c s) {L' : List LNode} (h1 : Lru w' c.B c.M c.N L') (ho : Off (Lown c.B c.M s.L) w w') (hs : ∀ b, Lown c.B c.M L' b → Lown c.B c.M s.L b ∨ w.heap.size ≤ b) : HStep w w' c s { s with L := L' } := by
  refine ⟨k.lruStep h1 ho hs, ho.mono (fun i _ h => Or.inl h), fun i hi => ?_⟩
  rcases hi with h | h | h | h | h
  · rcases hs i h with h | h
    · exact Or.inl (Or.inl h)
    · exact Or.inr h
  · exact Or.inl (Or.inr (Or.inl h))
  · exact Or.inl (Or.inr (Or.inr (Or.inl h)))
  · exact Or.inl (Or.inr (Or.inr (Or.inr (Or.inl h))))
  · exact Or.inl (Or.inr (Or.inr (Or.inr (Or.inr h))))
theorem HStep.sk (k : HotCore w c s) {ls : Int} {sn : List NoteS} {v' : Value} {bs' : List BkS} (h1 : SkInv w' c.sb c.sh (c.R.secs * 100000) ls sn v' bs') (hl : ls ≤ s.last) (hbl : bs'.length ≤ 1099511627777) (ho : Off (SkOwn c.sb s.v s.bs) w w') (hs : ∀ i, SkOwn c.sb v' bs' i → SkOwn c.sb s.v s.bs i ∨ w.heap.size ≤ i) : HStep w w' c s { s with ls := ls, sn := sn, v := v', bs := bs' } := by
  refine ⟨k.skStep h1 hl hbl ho hs, ho.mono (fun i _ h => Or.inr (Or.inl h)), fun i hi => ?_⟩
  rcases hi with h | h | h | h | h
  · exact Or.inl (Or.inl h)
  · rcases hs i h with h | h
    · exact Or.inl (Or.inr (Or.inl h))
    · exact Or.inr h
  · exact Or.inl (Or.inr (Or.inr (Or.inl h)))
  · exact Or.inl (Or.inr (Or.inr (Or.inr (Or.inl h))))
  · exact Or.inl (Or.inr (Or.inr (Or.inr (Or.inr h))))
theorem HStep.win (k : HotCore w c s) {x : HW} (hx : x ∈ s.WS) {at_ : Int} {ns : List NoteW} (h1 : WinN w' x.p x.m c.W 10 at_ (x.notes ++ ns)) (hl : at_ ≤ s.last) (ho : Off (fun i => i = x.p ∨ i = x.m) w w') : HStep w w' c s { s with WS := updW s.WS x.key at_ ns } := by
  refine ⟨k.winStep hx h1 hl ho, ho.mono (fun i _ h => Or.inr (Or.inr (Or.inr (Or.inr ⟨x, hx, h⟩)))), fun i hi => Or.inl ?_⟩
  rcases hi with h | h | h | h | ⟨y, hy, h⟩
  · exact Or.inl h
  · exact Or.inr (Or.inl h)
  · exact Or.inr (Or.inr (Or.inl h))
  · exact Or.inr (Or.inr (Or.inr (Or.inl h)))
  · obtain ⟨z, hz, e1, e2, _⟩ := updW_mem hy
    rw [e1, e2] at h
    exact Or.inr (Or.inr (Or.inr (Or.inr ⟨z, hz, h⟩)))
theorem HStep.head (k : HotCore w c s) {at_ : Int} (h0 : s.last ≤ at_) (h1 : at_ ≤ 1152921504606846976) : HStep w (w.setCell ⟨c.hb, 8, none⟩ (.int .i64 at_)) c s { s with last := at_ } := by
  obtain ⟨h2, h3⟩ := k.headStep h0 h1
  exact ⟨h2, h3.mono (fun i _ h => Or.inr (Or.inr (Or.inr (Or.inl h)))), fun i hi => Or.inl hi⟩
theorem HStep.del (k : HotCore w c s) {g : ByteArray} (hg : g.size ≤ maxLen) (hin : (findW s.WS g).isSome = true) : ∃ w', (∀ ty, (Builtin.delete_ #[61, 9] ty #[.map (some c.mw), .string g]).run Tryz.prog w = .ok (.tuple #[]) w') ∧ HStep w w' c s { s with WS := delW s.WS g } := by
  obtain ⟨w', hr, h1, h2⟩ := k.mapDel hg hin
  refine ⟨w', hr, h1, h2.mono (fun i _ h => Or.inr (Or.inr (Or.inl h))), fun i hi => Or.inl ?_⟩
  rcases hi with h | h | h | h | ⟨y, hy, h⟩
  · exact Or.inl h
  · exact Or.inr (Or.inl h)
  · exact Or.inr (Or.inr (Or.inl h))
  · exact Or.inr (Or.inr (Or.inr (Or.inl h)))
  · exact Or.inr (Or.inr (Or.inr (Or.inr ⟨y, (List.mem_filter.1 hy).1, h⟩)))
/-- Notes of a value that is kept. -/
def HotV.V (s : HotV) (k : ByteArray) : Option (List NoteW) := (findW s.WS k).map (·.notes)
def passH (n : Int) : CntS := ⟨n, 0, 0, 0, 0, 0⟩
theorem passH_right {n : Int} (h0 : 0 ≤ n) (h1 : n ≤ 4611686018427387904) : RightC (passH n) := by constructor <;> simp [passH] <;> omega
theorem cts_oneH {w : World} (x : CntS) : CtsAt (w.alloc (ctO x 92)) (some ⟨w.heap.size, 0, none⟩) [x] := by
  have hn : (w.alloc (ctO x 92)).heap[w.heap.size]? = some (ctO x 92) := (get_allocW w _ _).trans (if_pos rfl)
  refine Or.inr ⟨w.heap.size, 0, rfl, by simp, fun j y hy => ?_⟩
  obtain ⟨hj, hy2⟩ := List.getElem?_eq_some_iff.1 hy
  have : j = 0 := by simp at hj; omega
  subst this
  obtain rfl : x = y := by simpa using hy2
  simpa using (ct_cells hn).1
/-- What keep leaves. -/
structure KeepPost (w : World) (c : HotC) (s : HotV) (at_ : Int) (key : ByteArray) (w' : World) (s' : HotV) : Prop where
  step : HStep w w' c s s'
  hot : HotAt w' c s'
  rows : pr s'.L = if hasA (pr s.L) key then getA (pr s.L) key else putA c.N (pr s.L) key 0
  vals : ∀ k, s'.V k = if hasA (pr s.L) key then s.V k else if k = key then some (newW at_ [passH (usedH c s at_ key)]) else if wentA c.N (pr s.L) key && decide (k = goneA c.N (pr s.L) key) then none else s.V k
  last : s'.last = s.last
  ls : s'.ls = s.ls
  sn : s'.sn = s.sn
theorem pr_keys (L : List LNode) : (pr L).map (·.1) = L.map (·.k) := by simp [pr]
theorem ws_le {WS : List HW} {A : List (ByteArray × Int)} (hn : (WS.map (·.key)).Nodup) (h : ∀ k, (findW WS k).isSome = true → hasA A k = true) : WS.length ≤ A.length := by
  have := nodup_le (WS.map (·.key)) (A.map (·.1)) hn (fun k hk => by
    have h1 : (findW WS k).isSome = true := by
      cases hf : findW WS k with
      | none => exact absurd hk (findW_none.1 hf)
      | some x => rfl
    have h2 := h k h1
    unfold hasA at h2
    rw [List.any_eq_true] at h2
    obtain ⟨p, hp, e⟩ := h2
    exact List.mem_map.2 ⟨p, hp, by simpa using e⟩)
  simpa using this
theorem Lru.keysA {w : World} {m mp most : Nat} {L : List LNode} (h : Lru w m mp most L) : ((pr L).map (·.1)).Nodup := by rw [pr_keys]; exact h.body.keys
theorem gone_in {n : Nat} {A : List (ByteArray × Int)} {s : ByteArray} (hn : 1 ≤ n) (h : wentA n A s = true) : hasA A (goneA n A s) = true := by
  unfold wentA at h
  simp only [Bool.and_eq_true, Bool.not_eq_true', decide_eq_true_eq] at h
  obtain ⟨h1, h2⟩ := h
  unfold goneA
  rw [h1, if_neg (by simp), if_pos h2]
  have hne : A ≠ [] := by intro e; rw [e] at h2; simp at h2; omega
  obtain ⟨p, B, rfl⟩ := List.exists_cons_of_ne_nil hne
  unfold hasA
  rw [List.any_cons]
  simp
theorem gone_size {w : World} {m mp most : Nat} {L : List LNode} (h : Lru w m mp most L) {s : ByteArray} (hw : wentA most (pr L) s = true) : (goneA most (pr L) s).size ≤ maxLen := by
  have := gone_in h.big.1 hw
  unfold hasA at this
  rw [List.any_eq_true] at this
  obtain ⟨p, hp, e⟩ := this
  obtain ⟨x, hx, rfl⟩ := List.mem_map.1 hp
  simp only [decide_eq_true_eq] at e
  rw [← e]
  exact h.body.small x hx
/-- It is kept already. -/
theorem KeepPost.old (k : HotAt w c s) {L' : List LNode} (at_ : Int) {key : ByteArray} (hh : hasA (pr s.L) key = true) (h1 : Lru w' c.B c.M c.N L') (hp : pr L' = getA (pr s.L) key) (ho : Off (Lown c.B c.M s.L) w w') (hs : ∀ b, Lown c.B c.M L' b → Lown c.B c.M s.L b) : KeepPost w c s at_ key w' { s with L := L' } := by
  have hst := HStep.lru k.toHotCore h1 ho (fun b hb => Or.inl (hs b hb))
  have hA : ∀ q, hasA (pr L') q = hasA (pr s.L) q := fun q => by
    rw [hp]
    unfold getA
    rw [hh, if_pos rfl]
    have := hasA_put (n := c.N) k.lru.big.1 k.lru.keysA key (valA (pr s.L) key) q
    unfold putA wentA at this
    rw [hh, if_pos rfl] at this
    rw [this]
    by_cases e : q = key
    · subst e; simp [hh]
    · simp [e]
  refine ⟨hst, ⟨hst.core, fun q => (hA q).trans (k.same q), k.few⟩, ?_, fun q => ?_, rfl, rfl, rfl⟩
  · rw [hh, if_pos rfl]; exact hp
  · rw [hh, if_pos rfl]; rfl
end Go.Proofs.YtemlafbkkaloiaaGreat

/- hot: keep, walked. -/
namespace Go.Proofs.YtemlafbkkaloiaaGreat
open Go.RowKit
set_option linter.unusedVariables false
set_option linter.unusedSimpArgs false

theorem HStep.put {w w6 w7 : World} {c : HotC} {s s6 : HotV} {x : HW} (h : HStep w w6 c s s6) (h7 : HotCore w7 c { s6 with WS := s6.WS ++ [x] }) (ho : Off (fun i => i = c.mw) w6 w7) (hp : w.heap.size ≤ x.p) (hm : w.heap.size ≤ x.m) : HStep w w7 c s { s6 with WS := s6.WS ++ [x] } := by
  refine ⟨h7, h.off.trans ho (fun i hi hs => ?_), fun i hi => ?_⟩
  · rcases h.own i (Or.inr (Or.inr (Or.inl hs))) with h1 | h1
    · exact h1
    · omega
  · rcases hi with h1 | h1 | h1 | h1 | ⟨y, hy, h1⟩
    · exact h.own i (Or.inl h1)
    · exact h.own i (Or.inr (Or.inl h1))
    · exact h.own i (Or.inr (Or.inr (Or.inl h1)))
    · exact h.own i (Or.inr (Or.inr (Or.inr (Or.inl h1))))
    · rcases List.mem_append.1 hy with hy | hy
      · exact h.own i (Or.inr (Or.inr (Or.inr (Or.inr ⟨y, hy, h1⟩))))
      · obtain rfl := List.mem_singleton.1 hy
        rcases h1 with rfl | rfl
        · exact Or.inr hp
        · exact Or.inr hm
/-- It was not kept: a new window, the map of keys turned, one window gone perhaps. -/
theorem KeepPost.new {w w5 w6 w7 : World} {c : HotC} {s : HotV} (k : HotAt w c s) {at_ : Int} {key : ByteArray} (hh : hasA (pr s.L) key = false) {L5 : List LNode} {WS6 : List HW} {x : HW}
    (h7 : HStep w w7 c s { s with L := L5, WS := WS6 ++ [x] }) (hp : pr L5 = putA c.N (pr s.L) key 0) (hx : x.key = key) (hn : x.notes = newW at_ [passH (usedH c s at_ key)])
    (hWS : WS6 = if wentA c.N (pr s.L) key then delW s.WS (goneA c.N (pr s.L) key) else s.WS) : KeepPost w c s at_ key w7 { s with L := L5, WS := WS6 ++ [x] } := by
  have hf : ∀ q, findW WS6 q = if wentA c.N (pr s.L) key && decide (q = goneA c.N (pr s.L) key) then none else findW s.WS q := fun q => by
    rw [hWS]
    cases wentA c.N (pr s.L) key
    · simp
    · rw [if_pos rfl, findW_del]; simp
  have hnk : findW WS6 key = none := by
    rw [hf]
    have : findW s.WS key = none := by
      have := k.same key
      rw [hh] at this
      cases hq : findW s.WS key with
      | none => rfl
      | some y => rw [hq] at this; cases this
    rw [this]; simp
  have hsame : ∀ q, hasA (pr L5) q = (findW (WS6 ++ [x]) q).isSome := fun q => by
    rw [hp, hasA_put k.lru.big.1 k.lru.keysA, findW_snoc, hx, hf, k.same q]
    by_cases e : q = key
    · subst e
      simp
    · have e' : ¬ key = q := fun h => e h.symm
      rw [if_neg e', decide_eq_false e]
      cases hw : (wentA c.N (pr s.L) key && decide (q = goneA c.N (pr s.L) key)) with
      | true => simp
      | false => cases findW s.WS q <;> simp
  refine ⟨h7, ⟨h7.core, hsame, ?_⟩, ?_, fun q => ?_, rfl, rfl, rfl⟩
  · have h1 := ws_le h7.core.keys (fun q hq => by
      have := hsame q
      rw [show findW { s with L := L5, WS := WS6 ++ [x] : HotV }.WS q = findW (WS6 ++ [x]) q from rfl] at hq
      rw [this]; exact hq)
    have h2 := h7.core.lru.cap
    have h3 := h7.core.lru.big
    rw [show (pr L5).length = L5.length from pr_len L5] at h1
    exact Nat.le_trans h1 (Nat.le_trans h2 h3.2)
  · rw [hh, if_neg (by simp)]; exact hp
  · rw [hh, if_neg (by simp)]
    show (findW (WS6 ++ [x]) q).map (·.notes) = _
    rw [findW_snoc, hx]
    by_cases e : q = key
    · subst e
      rw [hnk, if_pos rfl, if_pos rfl]
      show some x.notes = _
      rw [hn]
    · rw [if_neg (fun h => e h.symm), if_neg e, hf]
      cases (wentA c.N (pr s.L) key && decide (q = goneA c.N (pr s.L) key)) with
      | true => rfl
      | false => unfold HotV.V; cases findW s.WS q <;> rfl

set_option maxHeartbeats 12800000 in
set_option maxRecDepth 100000 in
theorem hkeep_any {w : World} {c : HotC} {s : HotV} (k : HotAt w c s) (at_ : Int) (hat : s.last = at_) (key : ByteArray) (hk : key.size ≤ maxLen) :
    Calls Tryz.prog 41 #[.pointer (some ⟨c.hb, 0, none⟩), .int .i64 at_, .string key] w fun e w' => ∃ s', e = .returned (.tuple #[]) ∧ KeepPost w c s at_ key w' s' := by
  have K := Lib.hid k
  have HG := Lib.hid (lget_any k.lru hk)
  obtain ⟨_, _, _, _, _, c5, _, _, _⟩ := k.cells
  have ha0 : 0 ≤ at_ := by rw [← hat]; exact k.l0
  have ha1 : at_ ≤ 1152921504606846976 := by rw [← hat]; exact k.l1
  have HAT := Lib.hid hat
  clear k hat
  go_enter Tryz.func41, Tryz.ntmps41
  go_wp2_with (fail)
  refine HG.out.mono ?_
  rintro e w1 ⟨L1, rfl, hl1, p1, o1, s1⟩
  clear c5 HG
  cases hh : hasA (pr s.L) key with
  | true =>
    have HP := Lib.hid (KeepPost.old K.out at_ hh hl1 p1 o1 s1)
    clear hl1 p1 o1 s1 hh
    go_wp2_with (fail)
    (try simp only [Exit.inBlock, Exit.then])
    refine bodyPost_ret (results_none rfl _ _ _) rfl ?_
    exact ⟨_, rfl, HP.out⟩
  | false =>
    have p1 : pr L1 = pr s.L := by rw [p1]; unfold getA; rw [hh, if_neg (by simp)]
    have HS1 := Lib.hid (HStep.lru K.out.toHotCore hl1 o1 (fun b hb => Or.inl (s1 b hb)))
    have HP1 := Lib.hid p1
    have HH := Lib.hid hh
    have HL1 := Lib.hid hl1
    obtain ⟨c0, c1, c2, c3, c4, c5, c6, _, _⟩ := HS1.out.core.cells
    obtain ⟨_, ⟨r1, r2⟩, _⟩ := hot_parts K.out.fine
    have HWD : Hid (Calls Tryz.prog 24 #[.agg #[.string c.R.res, .int .i64 c.R.idx, .int .i64 c.R.cnt, .int .i64 c.R.secs, .slice c.R.ia c.R.il c.R.ic]] w1 fun e w' => e = .returned (.int .i64 (c.R.secs * 1000000)) ∧ Below w1.heap.size w1 w') := hwidth_any c.R r1 r2 w1
    have HSH := Lib.hid K.out.shW
    clear hl1 p1 o1 s1 hh r1 r2
    go_wp2_with (fail)
    refine HWD.out.mono ?_
    rintro e w2 ⟨rfl, h2⟩
    have HNW := Lib.hid (show Calls Tryz.prog 71 #[.int .i64 (c.R.secs * 1000000), .int .i64 10] w2 _ from wnew_any w2 HSH.out)
    have HB2 := Lib.hid h2
    have hz2 := h2.size
    clear HWD h2 c0 c1 c2 c3 c4 c5 c6
    go_wp2_with (fail)
    refine HNW.out.mono ?_
    rintro e w3 ⟨rfl, hw3⟩
    have HW3 := winN_made w2 HSH.out
    have hb3 : Below w2.heap.size w2 ((w2.alloc (.map #[] 0)).alloc (winObj c.W 10 w2.heap.size)) := ((Below.refl _ _).alloc (Nat.le_refl _) _).alloc (by simp) _
    have hw3' : w3 = (w2.alloc (.map #[] 0)).alloc (winObj c.W 10 w2.heap.size) := hw3
    rw [← hw3'] at HW3 hb3
    have HB3 := Lib.hid (HB2.out.trans (hb3.mono hz2))
    have hz3 : w3.heap.size = w2.heap.size + 2 := by rw [hw3']; simp
    have HW3 := Lib.hid HW3
    have K3 := Lib.hid (HS1.out.core.below HB3.out)
    have HZ3 := Lib.hid hz3
    generalize hp : w2.heap.size + 1 = p at *
    generalize hm : w2.heap.size = m at *
    have HPM := Lib.hid (And.intro hp (And.intro hz2 hz3))
    clear hw3 hw3' hz2 hz3 hb3 HNW HB2 HZ3 hp hm
    have HUS := Lib.hid (hused_any K3.out at_ (by show s.last ≤ at_; rw [HAT.out]; exact Int.le_refl _) ha1 key hk)
    rw [show usedH c { s with L := L1 } at_ key = usedH c s at_ key from rfl] at HUS
    obtain ⟨u0, u1⟩ := K.out.usedBd at_ key
    generalize hU : usedH c s at_ key = U at *
    have HU := Lib.hid hU
    clear hU
    go_wp2_with (fail)
    refine HUS.out.mono ?_
    rintro e w4 ⟨rfl, h4⟩
    have hal : Below w4.heap.size w4 (w4.alloc (ctO (passH U) 92)) := (Below.refl _ _).alloc (Nat.le_refl _) _
    have hz4 := h4.size
    have hpm := HPM.out
    have HAD := wAddN_any (HW3.out.below (h4.trans (hal.mono hz4))) at_ (by unfold lookW; rw [if_neg (by omega), if_neg (by omega)]) (some ⟨w4.heap.size, 0, none⟩) 1 1 [passH U] rfl (by omega) (by simp) (cts_oneH _) (by intro x hx; obtain rfl := List.mem_singleton.1 hx; exact passH_right u0 u1) (fun g off e => by injection e with e; injection e with e; omega)
    have HAD := Lib.hid HAD
    have HB4 := Lib.hid (show Below w1.heap.size w1 (w4.alloc (ctO (passH U) 92)) from HB3.out.trans ((h4.mono HB3.out.size).trans (hal.mono (Nat.le_trans HB3.out.size hz4))))
    have HZ4 := Lib.hid hz4
    clear HUS h4 hal hpm hz4
    unfold ctO passH at HAD HB4
    dsimp only at HAD HB4
    go_wp2_with (fail)
    refine HAD.out.mono ?_
    rintro e w5 ⟨rfl, hw5, o5⟩
    have hpm := HPM.out
    have hb5 : Below w1.heap.size w1 w5 := HB4.out.trans (o5.below (B := w1.heap.size) HB4.out.size (fun i hi h => by omega))
    have hz5 : w4.heap.size < w5.heap.size := by have := o5.size; simp at this; omega
    have hz4 := HZ4.out
    have HS5 := Lib.hid (HS1.out.trans (HStep.below HS1.out.core hb5))
    obtain ⟨_, _, _, _, _, c5, c6, _, _⟩ := HS5.out.core.cells
    have HW5 := Lib.hid hw5
    have HPT := Lib.hid (lput_any HS5.out.core.lru hk 0)
    have HZ5 := Lib.hid (show p < w5.heap.size ∧ m < w5.heap.size ∧ w.heap.size ≤ p ∧ w.heap.size ≤ m ∧ w.heap.size ≤ w1.heap.size from ⟨by omega, by omega, by have := HS1.out.off.size; omega, by have := HS1.out.off.size; omega, HS1.out.off.size⟩)
    have HPL := Lib.hid (show w1.heap.size ≤ p ∧ w1.heap.size ≤ m from ⟨by omega, by omega⟩)
    clear HAD HB4 hpm hb5 hz5 o5 hw5 hz4 HB3 HPM HZ4 HW3 K3
    go_wp2_with (fail)
    refine HPT.out.mono ?_
    rintro e w6 ⟨L6, rfl, hl6, p6, o6, s6⟩
    rw [show pr ({ s with L := L1 } : HotV).L = pr s.L from HP1.out] at p6 ⊢
    have HS6 := HStep.lru HS5.out.core hl6 o6 s6
    have hown6 : ∀ i, HOwn c { s with L := L6 } i → i ≠ p ∧ i ≠ m := fun i hi => by
      have h5 := HZ5.out
      have hL := HPL.out
      rcases HS6.own i hi with h | h
      · rcases h with h | h
        · have := HL1.out.lt h; omega
        · have := HS1.out.core.lt (Or.inr h); omega
      · omega
    have hw6 := HW5.out.kept (o6.block p HZ5.out.1 (fun h => by have := HL1.out.lt h; have := HPL.out; omega)) (o6.block m HZ5.out.2.1 (fun h => by have := HL1.out.lt h; have := HPL.out; omega))
    have hit : ∀ g off, c.R.ia = some ⟨g, off, none⟩ → g ≠ p ∧ g ≠ m := fun g off e => by have := K.out.ilt g off e; have := HZ5.out; omega
    have hno : findW s.WS key = none := by
      have := K.out.same key
      rw [HH.out] at this
      cases hq : findW s.WS key with
      | none => rfl
      | some y => rw [hq] at this; cases this
    have HS6' := Lib.hid (HS5.out.trans HS6)
    have HO6 := Lib.hid hown6
    have HW6 := Lib.hid hw6
    have HIT := Lib.hid hit
    have HNO := Lib.hid hno
    have HP6 := Lib.hid p6
    have hfew := K.out.few
    have HX := Lib.hid (show newW at_ [passH U] = newW at_ [passH (usedH c s at_ key)] from by rw [HU.out])
    have HS6c := Lib.hid HS6
    obtain ⟨_, _, _, _, _, _, c6, _, _⟩ := HS6.core.cells
    cases hwent : wentA c.N (pr s.L) key with
    | false =>
      obtain ⟨w7, hrun, hc7, ho7⟩ := HS6.core.mapPut (x := ⟨key, p, m, at_, newW at_ [passH U]⟩) hk hno hw6 (by show at_ ≤ s.last; rw [HAT.out]; exact Int.le_refl _) hown6 hit (by show s.WS.length < maxLen; unfold maxLen; omega)
      have H7 := HStep.put HS6'.out hc7 ho7 HZ5.out.2.2.1 HZ5.out.2.2.2.1
      have HP := Lib.hid (KeepPost.new (w5 := w5) (w6 := w6) K.out HH.out H7 p6 rfl HX.out (by rw [hwent, if_neg (by simp)]))
      generalize goneA c.N (pr s.L) key = G at *
      clear hl6 p6 o6 s6 HS6 hown6 hw6 hit hno hc7 ho7 H7 hwent
      go_wp2_with (fail)
      go_end0
      exact ⟨_, rfl, HP.out⟩
    | true =>
      have hgz := gone_size K.out.lru hwent
      have hgi : (findW s.WS (goneA c.N (pr s.L) key)).isSome = true := by rw [← K.out.same]; exact gone_in K.out.lru.big.1 hwent
      obtain ⟨w8, hrun8, HS8⟩ := HStep.del HS6.core hgz hgi
      have hown8 : ∀ i, HOwn c { s with L := L6, WS := delW s.WS (goneA c.N (pr s.L) key) } i → i ≠ p ∧ i ≠ m := fun i hi => by
        rcases HS8.own i hi with h | h
        · exact hown6 i h
        · have h5 := HZ5.out; have := o6.size; omega
      have o8 := HS8.off
      have hw8 := hw6.kept (o8.block p (by have h5 := HZ5.out; have := o6.size; omega) (fun h => (hown6 p h).1 rfl)) (o8.block m (by have h5 := HZ5.out; have := o6.size; omega) (fun h => (hown6 m h).2 rfl))
      obtain ⟨_, _, _, _, _, _, c6b, _, _⟩ := HS8.core.cells
      have hfew8 : (delW s.WS (goneA c.N (pr s.L) key)).length ≤ s.WS.length := List.length_filter_le _ _
      obtain ⟨w7, hrun, hc7, ho7⟩ := HS8.core.mapPut (x := ⟨key, p, m, at_, newW at_ [passH U]⟩) hk (by show findW (delW s.WS (goneA c.N (pr s.L) key)) key = none; rw [findW_del, hno]; simp) hw8 (by show at_ ≤ s.last; rw [HAT.out]; exact Int.le_refl _) hown8 hit (by show (delW s.WS (goneA c.N (pr s.L) key)).length < maxLen; unfold maxLen; omega)
      have H7 := HStep.put (HS6'.out.trans HS8) hc7 ho7 HZ5.out.2.2.1 HZ5.out.2.2.2.1
      have HP := Lib.hid (KeepPost.new (w5 := w5) (w6 := w6) K.out HH.out H7 p6 rfl HX.out (by rw [hwent, if_pos rfl]))
      generalize goneA c.N (pr s.L) key = G at *
      have hrun8 := hrun8
      clear hl6 p6 o6 s6 HS6 hown6 hw6 hit hno hc7 ho7 H7 hwent hgz hgi HS8 hown8 o8 hw8 hfew8 HS6c HS6'
      go_wp2_with (fail)
      go_end0
      exact ⟨_, rfl, HP.out⟩
end Go.Proofs.YtemlafbkkaloiaaGreat

/- hot: Take. -/
namespace Go.Proofs.YtemlafbkkaloiaaGreat
open Go.RowKit
set_option linter.unusedVariables false
set_option linter.unusedSimpArgs false

/-- The keys behind a taking, that which was touched least recently first. -/
def rowsT (n : Nat) (A : List (ByteArray × Int)) (key : ByteArray) : List (ByteArray × Int) := if hasA A key then getA A key else putA n A key 0
/-- What Take leaves. -/
structure TakePost (w : World) (c : HotC) (s : HotV) (at_ : Int) (key : ByteArray) (n : Int) (w' : World) (s' : HotV) : Prop where
  hot : HotAt w' c s'
  off : Off (HOwn c s) w w'
  own : ∀ i, HOwn c s' i → HOwn c s i ∨ w.heap.size ≤ i
  err : lookHE s.last at_ key n ≠ 0 → s' = s
  no : lookHE s.last at_ key n = 0 → lookHB c s at_ key n = false → s' = { s with last := at_ }
  last : lookHB c s at_ key n = true → s'.last = at_ ∧ s'.ls = at_
  sn : lookHB c s at_ key n = true → s'.sn = s.sn ++ newNotes at_ key [n]
  rows : lookHB c s at_ key n = true → pr s'.L = rowsT c.N (pr s.L) key
  vals : lookHB c s at_ key n = true → ∀ k, s'.V k = if k = key then some (((s.V key).getD (newW at_ [passH (usedH c s at_ key)])) ++ newW at_ [passH n]) else if (!hasA (pr s.L) key) && (wentA c.N (pr s.L) key && decide (k = goneA c.N (pr s.L) key)) then none else s.V k

theorem addE_one {last at_ n : Int} (h : lookS last at_ = 0) (n0 : 0 ≤ n) (n1 : n ≤ 1099511627776) : addE last at_ [n] = 0 := by
  have hb : badS n = false := by unfold badS; rw [decide_eq_false (by omega), decide_eq_false (by omega)]; rfl
  unfold addE
  rw [h, if_neg (by omega), if_neg (by simp [hb])]
theorem ints_oneH (w : World) (n : Int) : IntsAt (w.alloc (.cells #[.int .i64 n] 3)) (some ⟨w.heap.size, 0, none⟩) [n] := by
  refine Or.inr ⟨_, 0, rfl, by simp, fun j hj => ?_⟩
  obtain rfl : j = 0 := by simp at hj; omega
  have := new_blockS w (.cells #[.int .i64 n] 3)
  simp only [World.cell?, this]; rfl
theorem HStep.hot {w w' : World} {c : HotC} {s s' : HotV} (h : HStep w w' c s s') (h1 : ∀ k, hasA (pr s'.L) k = (findW s'.WS k).isSome) (h2 : s'.WS.length ≤ 4096) : HotAt w' c s' := ⟨h.core, h1, h2⟩
/-- All of a taking that goes through. -/
theorem TakePost.yes {w w2 w3 w5 : World} {c : HotC} {s s3 : HotV} {x : HW} {v' : Value} {bs' : List BkS} {at_ n : Int} {key : ByteArray} (k : HotAt w c s) (hB : lookHB c s at_ key n = true) (h2 : HStep w w2 c s { s with last := at_ }) (hK : KeepPost w2 c { s with last := at_ } at_ key w3 s3)
    (hx : findW s3.WS key = some x) (h5 : HStep w3 w5 c s3 { s3 with WS := updW s3.WS x.key at_ (newW at_ [passH n]), ls := at_, sn := s3.sn ++ newNotes at_ key [n], v := v', bs := bs' }) :
    TakePost w c s at_ key n w5 { s3 with WS := updW s3.WS x.key at_ (newW at_ [passH n]), ls := at_, sn := s3.sn ++ newNotes at_ key [n], v := v', bs := bs' } := by
  have hxk : x.key = key := (findW_mem hx).2
  have hE : lookHE s.last at_ key n = 0 := by
    unfold lookHB at hB
    simp only [Bool.and_eq_true, decide_eq_true_eq] at hB
    exact hB.1
  have h := (h2.trans hK.step).trans h5
  refine ⟨h.hot (fun q => ?_) ?_, h.off, h.own, fun h0 => absurd hE h0, fun _ h0 => (by rw [hB] at h0; cases h0), fun _ => ⟨hK.last, rfl⟩, fun _ => ?_, fun _ => ?_, fun _ q => ?_⟩
  · show hasA (pr s3.L) q = (findW (updW s3.WS x.key at_ (newW at_ [passH n])) q).isSome
    rw [findW_upd, Option.isSome_map]
    exact hK.hot.same q
  · show (updW s3.WS x.key at_ (newW at_ [passH n])).length ≤ 4096
    unfold updW
    rw [List.length_map]
    exact hK.hot.few
  · show s3.sn ++ _ = _
    rw [hK.sn]
  · show pr s3.L = _
    rw [hK.rows]; rfl
  · show (findW (updW s3.WS x.key at_ (newW at_ [passH n])) q).map (·.notes) = _
    have hv := hK.vals q
    have hu : usedH c { s with last := at_ } at_ key = usedH c s at_ key := rfl
    rw [hu] at hv
    rw [findW_upd, hxk]
    by_cases e : q = key
    · subst e
      rw [if_pos rfl]
      have e1 : s3.V q = some x.notes := by unfold HotV.V; rw [hx]; rfl
      rw [e1] at hv
      rw [hx]
      simp only [Option.map_some, hxk, if_true]
      cases hh : hasA (pr s.L) q with
      | true =>
        rw [show hasA (pr ({ s with last := at_ } : HotV).L) q = true from hh, if_pos rfl] at hv
        rw [show s.V q = some x.notes from hv.symm]; rfl
      | false =>
        rw [show hasA (pr ({ s with last := at_ } : HotV).L) q = false from hh, if_neg (by simp), if_pos rfl] at hv
        have hn : s.V q = none := by
          have := k.same q
          rw [hh] at this
          unfold HotV.V
          cases hq : findW s.WS q with
          | none => rfl
          | some y => rw [hq] at this; cases this
        rw [hn]
        injection hv with hv
        rw [hv]; rfl
    · rw [if_neg e]
      have e1 : ((findW s3.WS q).map (fun y => if y.key = key then (⟨y.key, y.p, y.m, at_, y.notes ++ newW at_ [passH n]⟩ : HW) else y)).map (·.notes) = s3.V q := by
        unfold HotV.V
        cases hq : findW s3.WS q with
        | none => rfl
        | some y =>
          have : y.key ≠ key := fun h => e ((findW_mem hq).2.symm.trans h)
          simp only [Option.map_some, if_neg this]
      rw [e1, hv, if_neg e]
      show (if hasA (pr s.L) key then s.V q else _) = _
      cases hh : hasA (pr s.L) key with
      | true => simp
      | false => rfl

set_option maxHeartbeats 12800000 in
set_option maxRecDepth 100000 in
theorem htake_any {w : World} {c : HotC} {s : HotV} (k : HotAt w c s) (at_ : Int) (key : ByteArray) (hk : key.size ≤ maxLen) (n : Int) :
    Calls Tryz.prog 18 #[.pointer (some ⟨c.hb, 0, none⟩), .int .i64 at_, .string key, .int .i64 n] w fun e w' => ∃ s', e = .returned (.tuple #[.bool (lookHB c s at_ key n), .int .i64 (lookHE s.last at_ key n)]) ∧ TakePost w c s at_ key n w' s' := by
  have K := Lib.hid k
  have HLK := Lib.hid (hlook_any k at_ key hk n)
  clear k
  by_cases hE : lookHE s.last at_ key n = 0
  · obtain ⟨⟨n0, n1⟩, hwe⟩ := lookHE_ok hE
    obtain ⟨a0, a1, a2, _⟩ := hwE_ok hwe
    rw [hE] at HLK ⊢
    have HE := Lib.hid hE
    clear hE hwe
    cases hB : lookHB c s at_ key n with
    | false =>
      rw [hB] at HLK
      have HB := Lib.hid hB
      clear hB
      go_enter Tryz.func18, Tryz.ntmps18
      go_wp2_with (fail)
      refine HLK.out.mono ?_
      rintro e w1 ⟨rfl, h1⟩
      have k1 := K.out.below h1
      obtain ⟨_, _, _, _, _, _, _, _, c8⟩ := k1.cells
      have f8 : w1.frozen? ⟨c.hb, 8, none⟩ = false := by simp only [World.frozen?, k1.head]; simp
      have HS := HStep.head k1.toHotCore a2 a1
      have HT := Lib.hid (show TakePost w c s at_ key n (w1.setCell ⟨c.hb, 8, none⟩ (.int .i64 at_)) { s with last := at_ } from
        ⟨HS.hot k1.same k1.few, ((HStep.below K.out.toHotCore h1).trans HS).off, ((HStep.below K.out.toHotCore h1).trans HS).own, fun h0 => absurd HE.out h0, fun _ _ => rfl, fun h0 => (by rw [HB.out] at h0; cases h0), fun h0 => (by rw [HB.out] at h0; cases h0), fun h0 => (by rw [HB.out] at h0; cases h0), fun h0 => (by rw [HB.out] at h0; cases h0)⟩)
      clear h1 k1 HS HLK
      go_wp2_with (fail)
      go_ret2
      exact ⟨_, rfl, HT.out⟩
    | true =>
      rw [hB] at HLK
      have HB := Lib.hid hB
      clear hB
      go_enter Tryz.func18, Tryz.ntmps18
      go_wp2_with (fail)
      refine HLK.out.mono ?_
      rintro e w1 ⟨rfl, h1⟩
      have k1 := K.out.below h1
      obtain ⟨_, _, _, _, _, _, _, _, c8⟩ := k1.cells
      have f8 : w1.frozen? ⟨c.hb, 8, none⟩ = false := by simp only [World.frozen?, k1.head]; simp
      have HS := HStep.head k1.toHotCore a2 a1
      have hot2 := HS.hot (by exact k1.same) k1.few
      have HS2 := Lib.hid ((HStep.below K.out.toHotCore h1).trans HS)
      have HKP := Lib.hid (hkeep_any hot2 at_ rfl key hk)
      have HOT2 := Lib.hid hot2
      clear h1 k1 HS HLK hot2
      go_wp2_with (fail)
      refine HKP.out.mono ?_
      rintro e w3 ⟨s3, rfl, hkp⟩
      have HK := Lib.hid hkp
      obtain ⟨x, hx⟩ : ∃ x, findW s3.WS key = some x := by
        have hv := hkp.vals key
        cases hq : findW s3.WS key with
        | some x => exact ⟨x, rfl⟩
        | none =>
          exfalso
          unfold HotV.V at hv
          rw [hq] at hv
          cases hh : hasA (pr s.L) key with
          | true =>
            rw [show hasA (pr ({ s with last := at_ } : HotV).L) key = true from hh, if_pos rfl] at hv
            have h2 := HOT2.out.same key
            rw [show hasA (pr ({ s with last := at_ } : HotV).L) key = true from hh] at h2
            cases hq2 : findW ({ s with last := at_ } : HotV).WS key with
            | none => rw [hq2] at h2; cases h2
            | some y => rw [hq2] at hv; cases hv
          | false =>
            rw [show hasA (pr ({ s with last := at_ } : HotV).L) key = false from hh, if_neg (by simp), if_pos rfl] at hv
            cases hv
      have hxm := (findW_mem hx).1
      have hxk := (findW_mem hx).2
      have hlk := (hkp.hot.look hk).2
      rw [hx, Option.map_some] at hlk
      obtain ⟨_, _, _, _, _, _, c6, _, _⟩ := hkp.hot.cells
      obtain ⟨hwin, hwl⟩ := hkp.hot.wins x hxm
      have hsl : s3.last = at_ := hkp.last
      have hal : Below w3.heap.size w3 (w3.alloc (ctO (passH n) 92)) := (Below.refl _ _).alloc (Nat.le_refl _) _
      have hwlt := hwin.lt
      have HAD := wAddN_any (hwin.below hal) at_ (by unfold lookW; rw [if_neg (by omega), if_neg (by omega)]) (some ⟨w3.heap.size, 0, none⟩) 1 1 [passH n] rfl (by omega) (by simp) (cts_oneH _) (by intro y hy; obtain rfl := List.mem_singleton.1 hy; exact passH_right (by omega) (by omega)) (fun g off e => by injection e with e; injection e with e; omega)
      have HAD := Lib.hid HAD
      have HAL := Lib.hid hal
      have HX := Lib.hid (And.intro hx (And.intro hxm hxk))
      have HSL := Lib.hid hsl
      generalize hxp : x.p = xp at hlk HAD
      have HXP := Lib.hid hxp
      unfold ctO passH at HAD
      dsimp only at HAD
      clear hkp hx hxm hxk hwin hwl hsl hal hwlt HKP c8 f8 hxp
      go_wp2_with (fail)
      refine HAD.out.mono ?_
      rintro e w4 ⟨rfl, hw4, o4⟩
      have hst4 := HStep.win (w' := w4) (HK.out.hot.toHotCore.below (show Below w3.heap.size w3 (w3.alloc (ctO (passH n) 92)) from HAL.out)) HX.out.2.1 (at_ := at_) (ns := newW at_ [passH n]) (by rw [HXP.out]; exact hw4) (by rw [HSL.out]; exact Int.le_refl _) (by rw [HXP.out]; exact o4)
      have HS4 := Lib.hid ((HStep.below HK.out.hot.toHotCore HAL.out).trans hst4)
      obtain ⟨_, _, _, _, _, _, _, c7, _⟩ := hst4.core.cells
      have hal4 : Below w4.heap.size w4 (w4.alloc (.cells #[.int .i64 n] 3)) := (Below.refl _ _).alloc (Nat.le_refl _) _
      have k4a := hst4.core.below hal4
      have hls : s3.ls ≤ at_ := by have := HK.out.hot.lsl; rw [HSL.out] at this; exact this
      have hadd := addE_one (n := n) (show lookS s3.ls at_ = 0 by unfold lookS; rw [if_neg (by omega), if_neg (by omega)]) (by omega) n1
      have HAD2 := skaddI2_any k4a.sk k4a.shS at_ key hk (some ⟨w4.heap.size, 0, none⟩) 1 1 [n] rfl (by omega) (ints_oneH w4 n) (fun _ g off hg hs => by
        have := hst4.core.sk.at_.lt hs
        injection hg with hg; injection hg with hg; omega) k4a.skf
      rw [show ({ s3 with WS := updW s3.WS x.key at_ (newW at_ [passH n]) } : HotV).ls = s3.ls from rfl, hadd, if_pos rfl, if_pos rfl] at HAD2
      have HAD2 := Lib.hid HAD2
      have K4 := Lib.hid k4a
      have HAL4 := Lib.hid hal4
      have HS4c := Lib.hid hst4
      clear hst4 hal4 k4a hls hadd HAD hw4 o4 hlk c6
      go_wp2_with (fail)
      refine HAD2.out.mono ?_
      rintro e w5 ⟨rfl, v5, bs5, hk5, o5, s5, f5⟩
      have hst5 := HStep.sk K4.out hk5 (by show at_ ≤ s3.last; rw [HSL.out]; exact Int.le_refl _) f5 o5 s5
      have HT := Lib.hid (TakePost.yes K.out HB.out HS2.out HK.out HX.out.1 ((HS4.out.trans (HStep.below HS4c.out.core HAL4.out)).trans hst5))
      clear hst5 hk5 o5 s5 c7
      go_wp2_with (fail)
      go_ret2
      exact ⟨_, rfl, HT.out⟩
  · have hB : lookHB c s at_ key n = false := by unfold lookHB; rw [decide_eq_false hE]; rfl
    have hne : (lookHE s.last at_ key n != 0) = true := by simpa using hE
    rw [hB] at HLK ⊢
    have HE := Lib.hid hE
    have HB := Lib.hid hB
    have HT : Hid (∀ w1, Below w.heap.size w w1 → TakePost w c s at_ key n w1 s) := fun w1 h1 => ⟨K.out.below h1, Off.ofBelow h1, fun i hi => Or.inl hi, fun _ => rfl, fun h0 => absurd h0 HE.out, fun h0 => (by rw [HB.out] at h0; cases h0), fun h0 => (by rw [HB.out] at h0; cases h0), fun h0 => (by rw [HB.out] at h0; cases h0), fun h0 => (by rw [HB.out] at h0; cases h0)⟩
    generalize lookHE s.last at_ key n = E at hne HLK ⊢
    clear hE hB
    go_enter Tryz.func18, Tryz.ntmps18
    go_wp2_with (fail)
    refine HLK.out.mono ?_
    rintro e w1 ⟨rfl, h1⟩
    have HT1 := Lib.hid (HT.out _ h1)
    clear h1 HT
    go_wp2_with (fail)
    go_ret2
    exact ⟨_, rfl, HT1.out⟩
end Go.Proofs.YtemlafbkkaloiaaGreat
