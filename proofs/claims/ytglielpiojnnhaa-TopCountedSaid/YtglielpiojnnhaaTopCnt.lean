/- Plain: what a bounded map and a sketch have counted of keys. -/
import Derived.Test.YtglielpiojnnhaaSkN
import Derived.Test.YtglielpiojnnhaaLruI
namespace Go.Proofs.Ytglielpiojnnhaa
open Go.RowKit
set_option linter.unusedVariables false
set_option linter.unusedSimpArgs false

/-- How often a key came. -/
def cntT (ks : List ByteArray) (s : ByteArray) : Nat := (ks.filter (fun k => decide (k = s))).length
theorem cntT_snoc (ks : List ByteArray) (k s : ByteArray) : cntT (ks ++ [k]) s = if k = s then cntT ks s + 1 else cntT ks s := by
  unfold cntT
  rw [List.filter_append, List.length_append]
  by_cases h : k = s
  · rw [if_pos h]; simp [h]
  · rw [if_neg h]; simp [h]
theorem cntT_le (ks : List ByteArray) (s : ByteArray) : cntT ks s ≤ ks.length := List.length_filter_le _ _
def notesT (ks : List ByteArray) : List NoteS := ks.map (fun k => ⟨0, 1, k⟩)
theorem notesT_snoc (ks : List ByteArray) (k : ByteArray) : notesT (ks ++ [k]) = notesT ks ++ newNotes 0 k [1] := by simp [notesT, newNotes]
def topH (seed : Int) : ShapeS := ⟨1000, 10, 4, 64, seed⟩
theorem topOk {seed : Int} (s0 : 0 ≤ seed) (s1 : seed ≤ 18446744073709551615) : ShapeOk (topH seed) 100 :=
  ⟨by simp [topH], by simp [topH], by simp [topH], by simp [topH], by simp [topH], by simp [topH], by simp [topH], by simp [topH], by simp [topH], by omega, s0, s1⟩
theorem sum_notesT (p : NoteS → Bool) (q : ByteArray → Bool) (h : ∀ k, p ⟨0, 1, k⟩ = q k) : ∀ ks : List ByteArray, sumP p (notesT ks) = ((ks.filter q).length : Int)
  | [] => rfl
  | k :: ks => by
    show (if p ⟨0, 1, k⟩ then (1 : Int) else 0) + sumP p (notesT ks) = _
    rw [sum_notesT p q h ks, h k, List.filter_cons]
    cases q k
    · simp
    · simp; omega
theorem notesT_nonneg (ks : List ByteArray) : NonNeg (notesT ks) := by
  intro x hx
  obtain ⟨k, _, rfl⟩ := List.mem_map.1 hx
  simp
theorem est_bds {ks : List ByteArray} (hl : ks.length ≤ 200) (seed : Int) (key : ByteArray) :
    (cntT ks key : Int) ≤ estN (topH seed) 100 0 key (notesT ks) ∧ estN (topH seed) 100 0 key (notesT ks) ≤ ks.length := by
  have h1 := own_le_est (h := topH seed) (b := 100) (D := ⟨0, 0, key, []⟩) (notesT_nonneg ks)
  have h2 := est_le_tot (h := topH seed) (b := 100) (at_ := 0) (key := key) (by simp [topH]) (notesT_nonneg ks)
  have hc := cntT_le ks key
  have e1 : ownN (topH seed) 100 ⟨0, 0, key, []⟩ (notesT ks) = cntT ks key := by
    unfold ownN
    rw [sum_notesT (ownP (topH seed) 100 ⟨0, 0, key, []⟩) (fun k => decide (k = key)) (fun k => by simp [ownP, beginS, topH]) ks]
    exact capS_small (by unfold cntT at hc; omega)
  have e2 : totN (topH seed) 100 0 (notesT ks) = ks.length := by
    unfold totN
    rw [sum_notesT _ (fun _ => true) (fun k => by simp [beginS, topH]) ks, List.filter_eq_self.2 (fun _ _ => rfl)]
    exact capS_small (by omega)
  rw [e1] at h1
  rw [e2] at h2
  exact ⟨h1, h2⟩

/-- What the map holds of each key is no more than how often it came. -/
def LeT (A : List (ByteArray × Int)) (ks : List ByteArray) : Prop := ∀ p, p ∈ A → 0 ≤ p.2 ∧ p.2 ≤ cntT ks p.1
theorem leT_nil (ks : List ByteArray) : LeT [] ks := by intro p hp; simp at hp
theorem valA_le {A : List (ByteArray × Int)} {ks : List ByteArray} (h : LeT A ks) (s : ByteArray) : 0 ≤ valA A s ∧ valA A s ≤ cntT ks s := by
  unfold valA
  cases hf : A.find? (fun p => decide (p.1 = s)) with
  | none => simp
  | some p =>
    have h1 := List.mem_of_find?_eq_some hf
    have h2 := List.find?_some hf
    simp only [decide_eq_true_eq] at h2
    have := h p h1
    rw [h2] at this
    simpa using this
theorem leT_more {A : List (ByteArray × Int)} {ks : List ByteArray} (h : LeT A ks) (k : ByteArray) : LeT A (ks ++ [k]) := fun p hp => by
  have := h p hp
  rw [cntT_snoc]
  split <;> omega
theorem putA_le {n : Nat} {A : List (ByteArray × Int)} {ks : List ByteArray} (h : LeT A ks) {s : ByteArray} {v : Int} (v0 : 0 ≤ v) (v1 : v ≤ cntT ks s) : LeT (putA n A s v) ks := by
  have hs : LeT [(s, v)] ks := by intro p hp; obtain rfl := List.mem_singleton.1 hp; exact ⟨v0, v1⟩
  have key : ∀ B : List (ByteArray × Int), (∀ p, p ∈ B → p ∈ A) → LeT (B ++ [(s, v)]) ks := fun B hB p hp => by
    rcases List.mem_append.1 hp with h1 | h1
    · exact h p (hB p h1)
    · exact hs p h1
  unfold putA
  split
  · exact key _ (fun p hp => (List.mem_filter.1 hp).1)
  · split
    · exact key _ (fun p hp => List.mem_of_mem_tail hp)
    · exact key _ (fun p hp => hp)
theorem find_snoc {A : List (ByteArray × Int)} {s : ByteArray} {v : Int} (h : hasA A s = false) : (A ++ [(s, v)]).find? (fun p => decide (p.1 = s)) = some (s, v) := by
  rw [List.find?_append]
  have : A.find? (fun p => decide (p.1 = s)) = none := by
    rw [List.find?_eq_none]
    intro p hp
    unfold hasA at h
    rw [List.any_eq_false] at h
    exact h p hp
  rw [this]
  simp
theorem hasA_sub {A B : List (ByteArray × Int)} {s : ByteArray} (h : hasA A s = false) (hB : ∀ p, p ∈ B → p ∈ A) : hasA B s = false := by
  unfold hasA at *
  rw [List.any_eq_false] at *
  exact fun p hp => h p (hB p hp)
theorem hasA_del (A : List (ByteArray × Int)) (s : ByteArray) : hasA (delA A s) s = false := by
  unfold hasA
  rw [List.any_eq_false]
  intro p hp
  have := (List.mem_filter.1 hp).2
  simpa using this
theorem putA_find (n : Nat) (A : List (ByteArray × Int)) (s : ByteArray) (v : Int) : (putA n A s v).find? (fun p => decide (p.1 = s)) = some (s, v) := by
  unfold putA
  cases hh : hasA A s with
  | true => rw [if_pos rfl]; exact find_snoc (hasA_del A s)
  | false =>
    rw [if_neg (by simp)]
    split
    · exact find_snoc (hasA_sub hh (fun p hp => List.mem_of_mem_tail hp))
    · exact find_snoc hh
theorem putA_has (n : Nat) (A : List (ByteArray × Int)) (s : ByteArray) (v : Int) : hasA (putA n A s v) s = true ∧ valA (putA n A s v) s = v := by
  have h := putA_find n A s v
  refine ⟨?_, by unfold valA; rw [h]; rfl⟩
  unfold hasA
  rw [List.any_eq_true]
  exact ⟨(s, v), List.mem_of_find?_eq_some h, by simp⟩
theorem getA_le {A : List (ByteArray × Int)} {ks : List ByteArray} (h : LeT A ks) (s : ByteArray) : LeT (getA A s) ks := by
  unfold getA
  split
  · intro p hp
    rcases List.mem_append.1 hp with h1 | h1
    · exact h p (List.mem_filter.1 h1).1
    · obtain rfl := List.mem_singleton.1 h1
      exact valA_le h s
  · exact h
end Go.Proofs.Ytglielpiojnnhaa
